/- The walk of copselaw13.ScoreOrders. -/
import Derived.Test.YtdpmijmofeechaaDoorLiv13
namespace Go.Proofs.YtdpmijmofeechaaDoor.ScoOrd
set_option linter.unusedVariables false
open Go.RowKit Base BigM BigZ GcdM RatM RatW RefRat Glob WideM WideW Rat2 TextW PartW ScoW SclW SorM OddW Liv13

theorem cmpS_no {p q r s : Int} (h : bothS p q r s = false) : cmpS p q r s = 0 ∧ cmpSE p q r s = 130 := by unfold cmpS cmpSE; rw [h]; exact ⟨rfl, rfl⟩
theorem cmpS_yes {p q r s : Int} (h1 : isS p q = true) (h2 : isS r s = true) : cmpS p q r s = oddV p q r s ∧ cmpSE p q r s = 0 := by unfold cmpS cmpSE bothS; rw [h1, h2]; exact ⟨rfl, rfl⟩
theorem both_comm (p q r s : Int) : bothS p q r s = bothS r s p q := by unfold bothS; exact Bool.and_comm _ _
theorem odd_turn (p q r s : Int) : oddV r s p q = -oddV p q r s := by
  unfold oddV
  rcases ord_cases (r * q) (p * s) with ⟨e, h⟩ | ⟨e, h⟩ | ⟨e, h⟩ <;> rw [e]
  · rw [ord_gt h]; rfl
  · rw [ord_eq h.symm]; rfl
  · rw [ord_lt h]
theorem odd_zero {p q r s : Int} (h1 : isS p q = true) (h2 : isS r s = true) : oddV p q r s = 0 ↔ p = r ∧ q = s := by
  have hk : oddV p q r s = ord (key (r, s)) (key (p, q)) := odd_key (x := (p, q)) (y := (r, s)) h1 h2
  constructor
  · intro h
    rw [hk] at h
    have : key (p, q) = key (r, s) := by
      rcases ord_cases (key (r, s)) (key (p, q)) with ⟨e, h'⟩ | ⟨e, h'⟩ | ⟨e, h'⟩
      · rw [e] at h; omega
      · exact h'.symm
      · rw [e] at h; omega
    have := key_inj (x := (p, q)) (y := (r, s)) h1 h2 this
    simpa using this
  · rintro ⟨rfl, rfl⟩
    rw [hk]; exact ord_eq rfl
theorem odd_bd (p q r s : Int) : -1 ≤ oddV p q r s ∧ oddV p q r s ≤ 1 := ord_bd _ _
theorem odd_trans {p q r s u v : Int} (h1 : isS p q = true) (h2 : isS r s = true) (h3 : isS u v = true) (a : ¬ oddV p q r s < 0) (b : ¬ oddV r s u v < 0) :
    oddV p q u v = max (oddV p q r s) (oddV r s u v) := by
  have k1 : oddV p q r s = ord (key (r, s)) (key (p, q)) := odd_key (x := (p, q)) (y := (r, s)) h1 h2
  have k2 : oddV r s u v = ord (key (u, v)) (key (r, s)) := odd_key (x := (r, s)) (y := (u, v)) h2 h3
  have k3 : oddV p q u v = ord (key (u, v)) (key (p, q)) := odd_key (x := (p, q)) (y := (u, v)) h1 h3
  rw [k1] at a ⊢
  rw [k2] at b ⊢
  rw [k3]
  rcases ord_cases (key (r, s)) (key (p, q)) with ⟨e, h⟩ | ⟨e, h⟩ | ⟨e, h⟩ <;> rcases ord_cases (key (u, v)) (key (r, s)) with ⟨e2, h2⟩ | ⟨e2, h2⟩ | ⟨e2, h2⟩ <;> rw [e] at a ⊢ <;> rw [e2] at b ⊢
  all_goals first
    | omega
    | (rw [ord_eq (by omega)]; rfl)
    | (rw [ord_gt (by omega)]; rfl)
set_option maxHeartbeats 2000000 in
set_option maxRecDepth 100000 in
theorem orders_no_n (p q r s u v : Int) (w : World) (hG : G w) (h1 : Fit p q) (h2 : Fit r s) (ha : isS p q = false) :
    Calls Tryd.prog 7 #[.agg #[.int .i64 p, .int .i64 q], .agg #[.int .i64 r, .int .i64 s], .agg #[.int .i64 u, .int .i64 v]] w fun e w' => e = .returned (.bool true) ∧ Below w.heap.size w w' := by
  have HG := Lib.hid hG
  have HA := Lib.hid ha
  have E1 := Lib.hid (cmpS_no (show bothS p q r s = false by unfold bothS; rw [ha]; rfl))
  have E2 := Lib.hid (cmpS_no (show bothS r s p q = false by rw [both_comm]; unfold bothS; rw [ha]; rfl))
  clear hG ha
  go_enter Tryd.func7, Tryd.ntmps7
  go_wp2_with fail
  refine (SCmp_any p q r s _ h1 h2).mono ?_
  rintro e w1 ⟨rfl, hb1⟩
  rw [E1.out.1, E1.out.2]
  have c0 := cell_at_below hb1 w.heap.size 0 (.int .i64 p) (by go_simp)
  have c1 := cell_at_below hb1 w.heap.size 1 (.int .i64 q) (by go_simp)
  have c2 := cell_at_below hb1 (w.heap.size + 1) 0 (.int .i64 r) (by go_simp)
  have c3 := cell_at_below hb1 (w.heap.size + 1) 1 (.int .i64 s) (by go_simp)
  have c4 := cell_at_below hb1 (w.heap.size + 1 + 1) 0 (.int .i64 u) (by go_simp)
  have c5 := cell_at_below hb1 (w.heap.size + 1 + 1) 1 (.int .i64 v) (by go_simp)
  have z0_ : w.heap.size < w1.heap.size := Nat.lt_of_lt_of_le (by first | assumption | (simp; done) | (simp; omega)) hb1.size
  have z1_ : w.heap.size + 1 < w1.heap.size := Nat.lt_of_lt_of_le (by first | assumption | (simp; done) | (simp; omega)) hb1.size
  have z2_ : w.heap.size + 1 + 1 < w1.heap.size := Nat.lt_of_lt_of_le (by first | assumption | (simp; done) | (simp; omega)) hb1.size
  have W1 := Lib.hid (bt hb1 ((below_alloc3 w _ _ _)))
  clear hb1
  go_wp2_with fail
  refine (SCmp_any r s p q _ h2 h1).mono ?_
  rintro e w2 ⟨rfl, hb2⟩
  rw [E2.out.1, E2.out.2]
  have c0 := cell_at_below hb2 w.heap.size 0 (.int .i64 p) (by go_simp)
  have c1 := cell_at_below hb2 w.heap.size 1 (.int .i64 q) (by go_simp)
  have c2 := cell_at_below hb2 (w.heap.size + 1) 0 (.int .i64 r) (by go_simp)
  have c3 := cell_at_below hb2 (w.heap.size + 1) 1 (.int .i64 s) (by go_simp)
  have c4 := cell_at_below hb2 (w.heap.size + 1 + 1) 0 (.int .i64 u) (by go_simp)
  have c5 := cell_at_below hb2 (w.heap.size + 1 + 1) 1 (.int .i64 v) (by go_simp)
  have z0_ : w.heap.size < w2.heap.size := Nat.lt_of_lt_of_le (by first | assumption | (simp; done) | (simp; omega)) hb2.size
  have z1_ : w.heap.size + 1 < w2.heap.size := Nat.lt_of_lt_of_le (by first | assumption | (simp; done) | (simp; omega)) hb2.size
  have z2_ : w.heap.size + 1 + 1 < w2.heap.size := Nat.lt_of_lt_of_le (by first | assumption | (simp; done) | (simp; omega)) hb2.size
  have W2 := Lib.hid (bt hb2 (W1.out))
  clear hb2
  go_wp2_with fail
  refine (RSIs_any p q _ h1).mono ?_
  rintro e w3 ⟨rfl, hb3⟩
  rw [HA.out]
  have c0 := cell_at_below hb3 w.heap.size 0 (.int .i64 p) (by go_simp)
  have c1 := cell_at_below hb3 w.heap.size 1 (.int .i64 q) (by go_simp)
  have c2 := cell_at_below hb3 (w.heap.size + 1) 0 (.int .i64 r) (by go_simp)
  have c3 := cell_at_below hb3 (w.heap.size + 1) 1 (.int .i64 s) (by go_simp)
  have c4 := cell_at_below hb3 (w.heap.size + 1 + 1) 0 (.int .i64 u) (by go_simp)
  have c5 := cell_at_below hb3 (w.heap.size + 1 + 1) 1 (.int .i64 v) (by go_simp)
  have z0_ : w.heap.size < w3.heap.size := Nat.lt_of_lt_of_le (by first | assumption | (simp; done) | (simp; omega)) hb3.size
  have z1_ : w.heap.size + 1 < w3.heap.size := Nat.lt_of_lt_of_le (by first | assumption | (simp; done) | (simp; omega)) hb3.size
  have z2_ : w.heap.size + 1 + 1 < w3.heap.size := Nat.lt_of_lt_of_le (by first | assumption | (simp; done) | (simp; omega)) hb3.size
  have W3 := Lib.hid (bt hb3 (W2.out))
  clear hb3
  go_wp2_with fail
  refine (lives13_any _ (HG.out.below (W3.out))).mono ?_
  rintro e w4 ⟨rfl, hb4⟩
  have c0 := cell_at_below hb4 w.heap.size 0 (.int .i64 p) (by go_simp)
  have c1 := cell_at_below hb4 w.heap.size 1 (.int .i64 q) (by go_simp)
  have c2 := cell_at_below hb4 (w.heap.size + 1) 0 (.int .i64 r) (by go_simp)
  have c3 := cell_at_below hb4 (w.heap.size + 1) 1 (.int .i64 s) (by go_simp)
  have c4 := cell_at_below hb4 (w.heap.size + 1 + 1) 0 (.int .i64 u) (by go_simp)
  have c5 := cell_at_below hb4 (w.heap.size + 1 + 1) 1 (.int .i64 v) (by go_simp)
  have z0_ : w.heap.size < w4.heap.size := Nat.lt_of_lt_of_le (by first | assumption | (simp; done) | (simp; omega)) hb4.size
  have z1_ : w.heap.size + 1 < w4.heap.size := Nat.lt_of_lt_of_le (by first | assumption | (simp; done) | (simp; omega)) hb4.size
  have z2_ : w.heap.size + 1 + 1 < w4.heap.size := Nat.lt_of_lt_of_le (by first | assumption | (simp; done) | (simp; omega)) hb4.size
  have W4 := Lib.hid (bt hb4 (W3.out))
  clear hb4
  go_wp2
  go_ret
  exact ⟨rfl, W4.out⟩
set_option maxHeartbeats 2000000 in
set_option maxRecDepth 100000 in
theorem orders_no_y (p q r s u v : Int) (w : World) (hG : G w) (h1 : Fit p q) (h2 : Fit r s) (ha : isS p q = true) (hb : isS r s = false) :
    Calls Tryd.prog 7 #[.agg #[.int .i64 p, .int .i64 q], .agg #[.int .i64 r, .int .i64 s], .agg #[.int .i64 u, .int .i64 v]] w fun e w' => e = .returned (.bool true) ∧ Below w.heap.size w w' := by
  have HG := Lib.hid hG
  have HA := Lib.hid ha
  have E1 := Lib.hid (cmpS_no (show bothS p q r s = false by unfold bothS; rw [ha]; rw [hb]; rfl))
  have E2 := Lib.hid (cmpS_no (show bothS r s p q = false by rw [both_comm]; unfold bothS; rw [ha]; rw [hb]; rfl))
  have HB := Lib.hid hb
  clear hb
  clear hG ha
  go_enter Tryd.func7, Tryd.ntmps7
  go_wp2_with fail
  refine (SCmp_any p q r s _ h1 h2).mono ?_
  rintro e w1 ⟨rfl, hb1⟩
  rw [E1.out.1, E1.out.2]
  have c0 := cell_at_below hb1 w.heap.size 0 (.int .i64 p) (by go_simp)
  have c1 := cell_at_below hb1 w.heap.size 1 (.int .i64 q) (by go_simp)
  have c2 := cell_at_below hb1 (w.heap.size + 1) 0 (.int .i64 r) (by go_simp)
  have c3 := cell_at_below hb1 (w.heap.size + 1) 1 (.int .i64 s) (by go_simp)
  have c4 := cell_at_below hb1 (w.heap.size + 1 + 1) 0 (.int .i64 u) (by go_simp)
  have c5 := cell_at_below hb1 (w.heap.size + 1 + 1) 1 (.int .i64 v) (by go_simp)
  have z0_ : w.heap.size < w1.heap.size := Nat.lt_of_lt_of_le (by first | assumption | (simp; done) | (simp; omega)) hb1.size
  have z1_ : w.heap.size + 1 < w1.heap.size := Nat.lt_of_lt_of_le (by first | assumption | (simp; done) | (simp; omega)) hb1.size
  have z2_ : w.heap.size + 1 + 1 < w1.heap.size := Nat.lt_of_lt_of_le (by first | assumption | (simp; done) | (simp; omega)) hb1.size
  have W1 := Lib.hid (bt hb1 ((below_alloc3 w _ _ _)))
  clear hb1
  go_wp2_with fail
  refine (SCmp_any r s p q _ h2 h1).mono ?_
  rintro e w2 ⟨rfl, hb2⟩
  rw [E2.out.1, E2.out.2]
  have c0 := cell_at_below hb2 w.heap.size 0 (.int .i64 p) (by go_simp)
  have c1 := cell_at_below hb2 w.heap.size 1 (.int .i64 q) (by go_simp)
  have c2 := cell_at_below hb2 (w.heap.size + 1) 0 (.int .i64 r) (by go_simp)
  have c3 := cell_at_below hb2 (w.heap.size + 1) 1 (.int .i64 s) (by go_simp)
  have c4 := cell_at_below hb2 (w.heap.size + 1 + 1) 0 (.int .i64 u) (by go_simp)
  have c5 := cell_at_below hb2 (w.heap.size + 1 + 1) 1 (.int .i64 v) (by go_simp)
  have z0_ : w.heap.size < w2.heap.size := Nat.lt_of_lt_of_le (by first | assumption | (simp; done) | (simp; omega)) hb2.size
  have z1_ : w.heap.size + 1 < w2.heap.size := Nat.lt_of_lt_of_le (by first | assumption | (simp; done) | (simp; omega)) hb2.size
  have z2_ : w.heap.size + 1 + 1 < w2.heap.size := Nat.lt_of_lt_of_le (by first | assumption | (simp; done) | (simp; omega)) hb2.size
  have W2 := Lib.hid (bt hb2 (W1.out))
  clear hb2
  go_wp2_with fail
  refine (RSIs_any p q _ h1).mono ?_
  rintro e w3 ⟨rfl, hb3⟩
  rw [HA.out]
  have c0 := cell_at_below hb3 w.heap.size 0 (.int .i64 p) (by go_simp)
  have c1 := cell_at_below hb3 w.heap.size 1 (.int .i64 q) (by go_simp)
  have c2 := cell_at_below hb3 (w.heap.size + 1) 0 (.int .i64 r) (by go_simp)
  have c3 := cell_at_below hb3 (w.heap.size + 1) 1 (.int .i64 s) (by go_simp)
  have c4 := cell_at_below hb3 (w.heap.size + 1 + 1) 0 (.int .i64 u) (by go_simp)
  have c5 := cell_at_below hb3 (w.heap.size + 1 + 1) 1 (.int .i64 v) (by go_simp)
  have z0_ : w.heap.size < w3.heap.size := Nat.lt_of_lt_of_le (by first | assumption | (simp; done) | (simp; omega)) hb3.size
  have z1_ : w.heap.size + 1 < w3.heap.size := Nat.lt_of_lt_of_le (by first | assumption | (simp; done) | (simp; omega)) hb3.size
  have z2_ : w.heap.size + 1 + 1 < w3.heap.size := Nat.lt_of_lt_of_le (by first | assumption | (simp; done) | (simp; omega)) hb3.size
  have W3 := Lib.hid (bt hb3 (W2.out))
  clear hb3
  go_wp2_with fail
  refine (RSIs_any r s _ h2).mono ?_
  rintro e w4 ⟨rfl, hb4⟩
  rw [HB.out]
  have c0 := cell_at_below hb4 w.heap.size 0 (.int .i64 p) (by go_simp)
  have c1 := cell_at_below hb4 w.heap.size 1 (.int .i64 q) (by go_simp)
  have c2 := cell_at_below hb4 (w.heap.size + 1) 0 (.int .i64 r) (by go_simp)
  have c3 := cell_at_below hb4 (w.heap.size + 1) 1 (.int .i64 s) (by go_simp)
  have c4 := cell_at_below hb4 (w.heap.size + 1 + 1) 0 (.int .i64 u) (by go_simp)
  have c5 := cell_at_below hb4 (w.heap.size + 1 + 1) 1 (.int .i64 v) (by go_simp)
  have z0_ : w.heap.size < w4.heap.size := Nat.lt_of_lt_of_le (by first | assumption | (simp; done) | (simp; omega)) hb4.size
  have z1_ : w.heap.size + 1 < w4.heap.size := Nat.lt_of_lt_of_le (by first | assumption | (simp; done) | (simp; omega)) hb4.size
  have z2_ : w.heap.size + 1 + 1 < w4.heap.size := Nat.lt_of_lt_of_le (by first | assumption | (simp; done) | (simp; omega)) hb4.size
  have W4 := Lib.hid (bt hb4 (W3.out))
  clear hb4
  go_wp2_with fail
  refine (lives13_any _ (HG.out.below (W4.out))).mono ?_
  rintro e w5 ⟨rfl, hb5⟩
  have c0 := cell_at_below hb5 w.heap.size 0 (.int .i64 p) (by go_simp)
  have c1 := cell_at_below hb5 w.heap.size 1 (.int .i64 q) (by go_simp)
  have c2 := cell_at_below hb5 (w.heap.size + 1) 0 (.int .i64 r) (by go_simp)
  have c3 := cell_at_below hb5 (w.heap.size + 1) 1 (.int .i64 s) (by go_simp)
  have c4 := cell_at_below hb5 (w.heap.size + 1 + 1) 0 (.int .i64 u) (by go_simp)
  have c5 := cell_at_below hb5 (w.heap.size + 1 + 1) 1 (.int .i64 v) (by go_simp)
  have z0_ : w.heap.size < w5.heap.size := Nat.lt_of_lt_of_le (by first | assumption | (simp; done) | (simp; omega)) hb5.size
  have z1_ : w.heap.size + 1 < w5.heap.size := Nat.lt_of_lt_of_le (by first | assumption | (simp; done) | (simp; omega)) hb5.size
  have z2_ : w.heap.size + 1 + 1 < w5.heap.size := Nat.lt_of_lt_of_le (by first | assumption | (simp; done) | (simp; omega)) hb5.size
  have W5 := Lib.hid (bt hb5 (W4.out))
  clear hb5
  go_wp2
  go_ret
  exact ⟨rfl, W5.out⟩
set_option maxHeartbeats 2000000 in
set_option maxRecDepth 100000 in
theorem orders_c_0 (p q r s u v n k : Int) (w : World) (hG : G w) (h1 : Fit p q) (h2 : Fit r s) (h3 : Fit u v) (ha : isS p q = true) (hb : isS r s = true) (hc : isS u v = false)
    (hn : oddV p q r s = n) (hm : oddV r s p q = -n) (bn : -1 ≤ n ∧ n ≤ 1) (e0 : (n == 0) = true) (ep : (p == r) = true) (eq : (q == s) = true) :
    Calls Tryd.prog 7 #[.agg #[.int .i64 p, .int .i64 q], .agg #[.int .i64 r, .int .i64 s], .agg #[.int .i64 u, .int .i64 v]] w fun e w' => e = .returned (.bool true) ∧ Below w.heap.size w w' := by
  have HG := Lib.hid hG
  have HA := Lib.hid ha
  have HB := Lib.hid hb
  have HC := Lib.hid hc
  have HN := Lib.hid hn
  have E1 := Lib.hid (show cmpS p q r s = n ∧ cmpSE p q r s = 0 by obtain ⟨a, b⟩ := cmpS_yes ha hb; exact ⟨a.trans hn, b⟩)
  have E2 := Lib.hid (show cmpS r s p q = -n ∧ cmpSE r s p q = 0 by obtain ⟨a, b⟩ := cmpS_yes hb ha; exact ⟨a.trans hm, b⟩)
  have E3 := Lib.hid (cmpS_no (show bothS r s u v = false by unfold bothS; rw [hb, hc]; rfl))
  have E4 := Lib.hid (cmpS_no (show bothS p q u v = false by unfold bothS; rw [ha, hc]; rfl))
  clear hG ha hb hc hn hm
  go_enter Tryd.func7, Tryd.ntmps7
  go_wp2_with fail
  refine (SCmp_any p q r s _ h1 h2).mono ?_
  rintro e w1 ⟨rfl, hb1⟩
  rw [E1.out.1, E1.out.2]
  have c0 := cell_at_below hb1 w.heap.size 0 (.int .i64 p) (by go_simp)
  have c1 := cell_at_below hb1 w.heap.size 1 (.int .i64 q) (by go_simp)
  have c2 := cell_at_below hb1 (w.heap.size + 1) 0 (.int .i64 r) (by go_simp)
  have c3 := cell_at_below hb1 (w.heap.size + 1) 1 (.int .i64 s) (by go_simp)
  have c4 := cell_at_below hb1 (w.heap.size + 1 + 1) 0 (.int .i64 u) (by go_simp)
  have c5 := cell_at_below hb1 (w.heap.size + 1 + 1) 1 (.int .i64 v) (by go_simp)
  have z0_ : w.heap.size < w1.heap.size := Nat.lt_of_lt_of_le (by first | assumption | (simp; done) | (simp; omega)) hb1.size
  have z1_ : w.heap.size + 1 < w1.heap.size := Nat.lt_of_lt_of_le (by first | assumption | (simp; done) | (simp; omega)) hb1.size
  have z2_ : w.heap.size + 1 + 1 < w1.heap.size := Nat.lt_of_lt_of_le (by first | assumption | (simp; done) | (simp; omega)) hb1.size
  have W1 := Lib.hid (bt hb1 ((below_alloc3 w _ _ _)))
  clear hb1
  go_wp2_with fail
  refine (SCmp_any r s p q _ h2 h1).mono ?_
  rintro e w2 ⟨rfl, hb2⟩
  rw [E2.out.1, E2.out.2]
  have c0 := cell_at_below hb2 w.heap.size 0 (.int .i64 p) (by go_simp)
  have c1 := cell_at_below hb2 w.heap.size 1 (.int .i64 q) (by go_simp)
  have c2 := cell_at_below hb2 (w.heap.size + 1) 0 (.int .i64 r) (by go_simp)
  have c3 := cell_at_below hb2 (w.heap.size + 1) 1 (.int .i64 s) (by go_simp)
  have c4 := cell_at_below hb2 (w.heap.size + 1 + 1) 0 (.int .i64 u) (by go_simp)
  have c5 := cell_at_below hb2 (w.heap.size + 1 + 1) 1 (.int .i64 v) (by go_simp)
  have z0_ : w.heap.size < w2.heap.size := Nat.lt_of_lt_of_le (by first | assumption | (simp; done) | (simp; omega)) hb2.size
  have z1_ : w.heap.size + 1 < w2.heap.size := Nat.lt_of_lt_of_le (by first | assumption | (simp; done) | (simp; omega)) hb2.size
  have z2_ : w.heap.size + 1 + 1 < w2.heap.size := Nat.lt_of_lt_of_le (by first | assumption | (simp; done) | (simp; omega)) hb2.size
  have W2 := Lib.hid (bt hb2 (W1.out))
  clear hb2
  go_wp2_with fail
  refine (RSIs_any p q _ h1).mono ?_
  rintro e w3 ⟨rfl, hb3⟩
  rw [HA.out]
  have c0 := cell_at_below hb3 w.heap.size 0 (.int .i64 p) (by go_simp)
  have c1 := cell_at_below hb3 w.heap.size 1 (.int .i64 q) (by go_simp)
  have c2 := cell_at_below hb3 (w.heap.size + 1) 0 (.int .i64 r) (by go_simp)
  have c3 := cell_at_below hb3 (w.heap.size + 1) 1 (.int .i64 s) (by go_simp)
  have c4 := cell_at_below hb3 (w.heap.size + 1 + 1) 0 (.int .i64 u) (by go_simp)
  have c5 := cell_at_below hb3 (w.heap.size + 1 + 1) 1 (.int .i64 v) (by go_simp)
  have z0_ : w.heap.size < w3.heap.size := Nat.lt_of_lt_of_le (by first | assumption | (simp; done) | (simp; omega)) hb3.size
  have z1_ : w.heap.size + 1 < w3.heap.size := Nat.lt_of_lt_of_le (by first | assumption | (simp; done) | (simp; omega)) hb3.size
  have z2_ : w.heap.size + 1 + 1 < w3.heap.size := Nat.lt_of_lt_of_le (by first | assumption | (simp; done) | (simp; omega)) hb3.size
  have W3 := Lib.hid (bt hb3 (W2.out))
  clear hb3
  go_wp2_with fail
  refine (RSIs_any r s _ h2).mono ?_
  rintro e w4 ⟨rfl, hb4⟩
  rw [HB.out]
  have c0 := cell_at_below hb4 w.heap.size 0 (.int .i64 p) (by go_simp)
  have c1 := cell_at_below hb4 w.heap.size 1 (.int .i64 q) (by go_simp)
  have c2 := cell_at_below hb4 (w.heap.size + 1) 0 (.int .i64 r) (by go_simp)
  have c3 := cell_at_below hb4 (w.heap.size + 1) 1 (.int .i64 s) (by go_simp)
  have c4 := cell_at_below hb4 (w.heap.size + 1 + 1) 0 (.int .i64 u) (by go_simp)
  have c5 := cell_at_below hb4 (w.heap.size + 1 + 1) 1 (.int .i64 v) (by go_simp)
  have z0_ : w.heap.size < w4.heap.size := Nat.lt_of_lt_of_le (by first | assumption | (simp; done) | (simp; omega)) hb4.size
  have z1_ : w.heap.size + 1 < w4.heap.size := Nat.lt_of_lt_of_le (by first | assumption | (simp; done) | (simp; omega)) hb4.size
  have z2_ : w.heap.size + 1 + 1 < w4.heap.size := Nat.lt_of_lt_of_le (by first | assumption | (simp; done) | (simp; omega)) hb4.size
  have W4 := Lib.hid (bt hb4 (W3.out))
  clear hb4
  go_wp2_with fail
  refine (Odder_any p q r s _ HA.out HB.out).mono ?_
  rintro e w5 ⟨rfl, hb5⟩
  rw [HN.out]
  have c0 := cell_at_below hb5 w.heap.size 0 (.int .i64 p) (by go_simp)
  have c1 := cell_at_below hb5 w.heap.size 1 (.int .i64 q) (by go_simp)
  have c2 := cell_at_below hb5 (w.heap.size + 1) 0 (.int .i64 r) (by go_simp)
  have c3 := cell_at_below hb5 (w.heap.size + 1) 1 (.int .i64 s) (by go_simp)
  have c4 := cell_at_below hb5 (w.heap.size + 1 + 1) 0 (.int .i64 u) (by go_simp)
  have c5 := cell_at_below hb5 (w.heap.size + 1 + 1) 1 (.int .i64 v) (by go_simp)
  have z0_ : w.heap.size < w5.heap.size := Nat.lt_of_lt_of_le (by first | assumption | (simp; done) | (simp; omega)) hb5.size
  have z1_ : w.heap.size + 1 < w5.heap.size := Nat.lt_of_lt_of_le (by first | assumption | (simp; done) | (simp; omega)) hb5.size
  have z2_ : w.heap.size + 1 + 1 < w5.heap.size := Nat.lt_of_lt_of_le (by first | assumption | (simp; done) | (simp; omega)) hb5.size
  have W5 := Lib.hid (bt hb5 (W4.out))
  clear hb5
  go_wp2_with fail
  refine (lives13_any _ (HG.out.below (W5.out))).mono ?_
  rintro e w6 ⟨rfl, hb6⟩
  have c0 := cell_at_below hb6 w.heap.size 0 (.int .i64 p) (by go_simp)
  have c1 := cell_at_below hb6 w.heap.size 1 (.int .i64 q) (by go_simp)
  have c2 := cell_at_below hb6 (w.heap.size + 1) 0 (.int .i64 r) (by go_simp)
  have c3 := cell_at_below hb6 (w.heap.size + 1) 1 (.int .i64 s) (by go_simp)
  have c4 := cell_at_below hb6 (w.heap.size + 1 + 1) 0 (.int .i64 u) (by go_simp)
  have c5 := cell_at_below hb6 (w.heap.size + 1 + 1) 1 (.int .i64 v) (by go_simp)
  have z0_ : w.heap.size < w6.heap.size := Nat.lt_of_lt_of_le (by first | assumption | (simp; done) | (simp; omega)) hb6.size
  have z1_ : w.heap.size + 1 < w6.heap.size := Nat.lt_of_lt_of_le (by first | assumption | (simp; done) | (simp; omega)) hb6.size
  have z2_ : w.heap.size + 1 + 1 < w6.heap.size := Nat.lt_of_lt_of_le (by first | assumption | (simp; done) | (simp; omega)) hb6.size
  have W6 := Lib.hid (bt hb6 (W5.out))
  clear hb6
  go_wp2_with fail
  refine (SCmp_any r s u v _ h2 h3).mono ?_
  rintro e w7 ⟨rfl, hb7⟩
  rw [E3.out.1, E3.out.2]
  have c0 := cell_at_below hb7 w.heap.size 0 (.int .i64 p) (by go_simp)
  have c1 := cell_at_below hb7 w.heap.size 1 (.int .i64 q) (by go_simp)
  have c2 := cell_at_below hb7 (w.heap.size + 1) 0 (.int .i64 r) (by go_simp)
  have c3 := cell_at_below hb7 (w.heap.size + 1) 1 (.int .i64 s) (by go_simp)
  have c4 := cell_at_below hb7 (w.heap.size + 1 + 1) 0 (.int .i64 u) (by go_simp)
  have c5 := cell_at_below hb7 (w.heap.size + 1 + 1) 1 (.int .i64 v) (by go_simp)
  have z0_ : w.heap.size < w7.heap.size := Nat.lt_of_lt_of_le (by first | assumption | (simp; done) | (simp; omega)) hb7.size
  have z1_ : w.heap.size + 1 < w7.heap.size := Nat.lt_of_lt_of_le (by first | assumption | (simp; done) | (simp; omega)) hb7.size
  have z2_ : w.heap.size + 1 + 1 < w7.heap.size := Nat.lt_of_lt_of_le (by first | assumption | (simp; done) | (simp; omega)) hb7.size
  have W7 := Lib.hid (bt hb7 (W6.out))
  clear hb7
  go_wp2_with fail
  refine (SCmp_any p q u v _ h1 h3).mono ?_
  rintro e w8 ⟨rfl, hb8⟩
  rw [E4.out.1, E4.out.2]
  have c0 := cell_at_below hb8 w.heap.size 0 (.int .i64 p) (by go_simp)
  have c1 := cell_at_below hb8 w.heap.size 1 (.int .i64 q) (by go_simp)
  have c2 := cell_at_below hb8 (w.heap.size + 1) 0 (.int .i64 r) (by go_simp)
  have c3 := cell_at_below hb8 (w.heap.size + 1) 1 (.int .i64 s) (by go_simp)
  have c4 := cell_at_below hb8 (w.heap.size + 1 + 1) 0 (.int .i64 u) (by go_simp)
  have c5 := cell_at_below hb8 (w.heap.size + 1 + 1) 1 (.int .i64 v) (by go_simp)
  have z0_ : w.heap.size < w8.heap.size := Nat.lt_of_lt_of_le (by first | assumption | (simp; done) | (simp; omega)) hb8.size
  have z1_ : w.heap.size + 1 < w8.heap.size := Nat.lt_of_lt_of_le (by first | assumption | (simp; done) | (simp; omega)) hb8.size
  have z2_ : w.heap.size + 1 + 1 < w8.heap.size := Nat.lt_of_lt_of_le (by first | assumption | (simp; done) | (simp; omega)) hb8.size
  have W8 := Lib.hid (bt hb8 (W7.out))
  clear hb8
  go_wp2_with fail
  refine (RSIs_any u v _ h3).mono ?_
  rintro e w9 ⟨rfl, hb9⟩
  rw [HC.out]
  have c0 := cell_at_below hb9 w.heap.size 0 (.int .i64 p) (by go_simp)
  have c1 := cell_at_below hb9 w.heap.size 1 (.int .i64 q) (by go_simp)
  have c2 := cell_at_below hb9 (w.heap.size + 1) 0 (.int .i64 r) (by go_simp)
  have c3 := cell_at_below hb9 (w.heap.size + 1) 1 (.int .i64 s) (by go_simp)
  have c4 := cell_at_below hb9 (w.heap.size + 1 + 1) 0 (.int .i64 u) (by go_simp)
  have c5 := cell_at_below hb9 (w.heap.size + 1 + 1) 1 (.int .i64 v) (by go_simp)
  have z0_ : w.heap.size < w9.heap.size := Nat.lt_of_lt_of_le (by first | assumption | (simp; done) | (simp; omega)) hb9.size
  have z1_ : w.heap.size + 1 < w9.heap.size := Nat.lt_of_lt_of_le (by first | assumption | (simp; done) | (simp; omega)) hb9.size
  have z2_ : w.heap.size + 1 + 1 < w9.heap.size := Nat.lt_of_lt_of_le (by first | assumption | (simp; done) | (simp; omega)) hb9.size
  have W9 := Lib.hid (bt hb9 (W8.out))
  clear hb9
  go_wp2
  go_ret
  exact ⟨rfl, W9.out⟩
set_option maxHeartbeats 2000000 in
set_option maxRecDepth 100000 in
theorem orders_x_0 (p q r s u v n k : Int) (w : World) (hG : G w) (h1 : Fit p q) (h2 : Fit r s) (h3 : Fit u v) (ha : isS p q = true) (hb : isS r s = true) (hc : isS u v = true)
    (hn : oddV p q r s = n) (hm : oddV r s p q = -n) (bn : -1 ≤ n ∧ n ≤ 1) (e0 : (n == 0) = true) (ep : (p == r) = true) (eq : (q == s) = true) (hk : oddV r s u v = k) (bk : -1 ≤ k ∧ k ≤ 1) (x : Int) (hx : oddV p q u v = x) (hfin : (decide (n < 0) || decide (k < 0) || x == max n k) = true) :
    Calls Tryd.prog 7 #[.agg #[.int .i64 p, .int .i64 q], .agg #[.int .i64 r, .int .i64 s], .agg #[.int .i64 u, .int .i64 v]] w fun e w' => e = .returned (.bool true) ∧ Below w.heap.size w w' := by
  have HG := Lib.hid hG
  have HA := Lib.hid ha
  have HB := Lib.hid hb
  have HC := Lib.hid hc
  have HN := Lib.hid hn
  have E1 := Lib.hid (show cmpS p q r s = n ∧ cmpSE p q r s = 0 by obtain ⟨a, b⟩ := cmpS_yes ha hb; exact ⟨a.trans hn, b⟩)
  have E2 := Lib.hid (show cmpS r s p q = -n ∧ cmpSE r s p q = 0 by obtain ⟨a, b⟩ := cmpS_yes hb ha; exact ⟨a.trans hm, b⟩)
  have E3 := Lib.hid (show cmpS r s u v = k ∧ cmpSE r s u v = 0 by obtain ⟨a, b⟩ := cmpS_yes hb hc; exact ⟨a.trans hk, b⟩)
  have E4 := Lib.hid (show cmpS p q u v = x ∧ cmpSE p q u v = 0 by obtain ⟨a, b⟩ := cmpS_yes ha hc; exact ⟨a.trans hx, b⟩)
  have HFIN := Lib.hid hfin
  clear hG ha hb hc hn hm hk hx hfin
  go_enter Tryd.func7, Tryd.ntmps7
  go_wp2_with fail
  refine (SCmp_any p q r s _ h1 h2).mono ?_
  rintro e w1 ⟨rfl, hb1⟩
  rw [E1.out.1, E1.out.2]
  have c0 := cell_at_below hb1 w.heap.size 0 (.int .i64 p) (by go_simp)
  have c1 := cell_at_below hb1 w.heap.size 1 (.int .i64 q) (by go_simp)
  have c2 := cell_at_below hb1 (w.heap.size + 1) 0 (.int .i64 r) (by go_simp)
  have c3 := cell_at_below hb1 (w.heap.size + 1) 1 (.int .i64 s) (by go_simp)
  have c4 := cell_at_below hb1 (w.heap.size + 1 + 1) 0 (.int .i64 u) (by go_simp)
  have c5 := cell_at_below hb1 (w.heap.size + 1 + 1) 1 (.int .i64 v) (by go_simp)
  have z0_ : w.heap.size < w1.heap.size := Nat.lt_of_lt_of_le (by first | assumption | (simp; done) | (simp; omega)) hb1.size
  have z1_ : w.heap.size + 1 < w1.heap.size := Nat.lt_of_lt_of_le (by first | assumption | (simp; done) | (simp; omega)) hb1.size
  have z2_ : w.heap.size + 1 + 1 < w1.heap.size := Nat.lt_of_lt_of_le (by first | assumption | (simp; done) | (simp; omega)) hb1.size
  have W1 := Lib.hid (bt hb1 ((below_alloc3 w _ _ _)))
  clear hb1
  go_wp2_with fail
  refine (SCmp_any r s p q _ h2 h1).mono ?_
  rintro e w2 ⟨rfl, hb2⟩
  rw [E2.out.1, E2.out.2]
  have c0 := cell_at_below hb2 w.heap.size 0 (.int .i64 p) (by go_simp)
  have c1 := cell_at_below hb2 w.heap.size 1 (.int .i64 q) (by go_simp)
  have c2 := cell_at_below hb2 (w.heap.size + 1) 0 (.int .i64 r) (by go_simp)
  have c3 := cell_at_below hb2 (w.heap.size + 1) 1 (.int .i64 s) (by go_simp)
  have c4 := cell_at_below hb2 (w.heap.size + 1 + 1) 0 (.int .i64 u) (by go_simp)
  have c5 := cell_at_below hb2 (w.heap.size + 1 + 1) 1 (.int .i64 v) (by go_simp)
  have z0_ : w.heap.size < w2.heap.size := Nat.lt_of_lt_of_le (by first | assumption | (simp; done) | (simp; omega)) hb2.size
  have z1_ : w.heap.size + 1 < w2.heap.size := Nat.lt_of_lt_of_le (by first | assumption | (simp; done) | (simp; omega)) hb2.size
  have z2_ : w.heap.size + 1 + 1 < w2.heap.size := Nat.lt_of_lt_of_le (by first | assumption | (simp; done) | (simp; omega)) hb2.size
  have W2 := Lib.hid (bt hb2 (W1.out))
  clear hb2
  go_wp2_with fail
  refine (RSIs_any p q _ h1).mono ?_
  rintro e w3 ⟨rfl, hb3⟩
  rw [HA.out]
  have c0 := cell_at_below hb3 w.heap.size 0 (.int .i64 p) (by go_simp)
  have c1 := cell_at_below hb3 w.heap.size 1 (.int .i64 q) (by go_simp)
  have c2 := cell_at_below hb3 (w.heap.size + 1) 0 (.int .i64 r) (by go_simp)
  have c3 := cell_at_below hb3 (w.heap.size + 1) 1 (.int .i64 s) (by go_simp)
  have c4 := cell_at_below hb3 (w.heap.size + 1 + 1) 0 (.int .i64 u) (by go_simp)
  have c5 := cell_at_below hb3 (w.heap.size + 1 + 1) 1 (.int .i64 v) (by go_simp)
  have z0_ : w.heap.size < w3.heap.size := Nat.lt_of_lt_of_le (by first | assumption | (simp; done) | (simp; omega)) hb3.size
  have z1_ : w.heap.size + 1 < w3.heap.size := Nat.lt_of_lt_of_le (by first | assumption | (simp; done) | (simp; omega)) hb3.size
  have z2_ : w.heap.size + 1 + 1 < w3.heap.size := Nat.lt_of_lt_of_le (by first | assumption | (simp; done) | (simp; omega)) hb3.size
  have W3 := Lib.hid (bt hb3 (W2.out))
  clear hb3
  go_wp2_with fail
  refine (RSIs_any r s _ h2).mono ?_
  rintro e w4 ⟨rfl, hb4⟩
  rw [HB.out]
  have c0 := cell_at_below hb4 w.heap.size 0 (.int .i64 p) (by go_simp)
  have c1 := cell_at_below hb4 w.heap.size 1 (.int .i64 q) (by go_simp)
  have c2 := cell_at_below hb4 (w.heap.size + 1) 0 (.int .i64 r) (by go_simp)
  have c3 := cell_at_below hb4 (w.heap.size + 1) 1 (.int .i64 s) (by go_simp)
  have c4 := cell_at_below hb4 (w.heap.size + 1 + 1) 0 (.int .i64 u) (by go_simp)
  have c5 := cell_at_below hb4 (w.heap.size + 1 + 1) 1 (.int .i64 v) (by go_simp)
  have z0_ : w.heap.size < w4.heap.size := Nat.lt_of_lt_of_le (by first | assumption | (simp; done) | (simp; omega)) hb4.size
  have z1_ : w.heap.size + 1 < w4.heap.size := Nat.lt_of_lt_of_le (by first | assumption | (simp; done) | (simp; omega)) hb4.size
  have z2_ : w.heap.size + 1 + 1 < w4.heap.size := Nat.lt_of_lt_of_le (by first | assumption | (simp; done) | (simp; omega)) hb4.size
  have W4 := Lib.hid (bt hb4 (W3.out))
  clear hb4
  go_wp2_with fail
  refine (Odder_any p q r s _ HA.out HB.out).mono ?_
  rintro e w5 ⟨rfl, hb5⟩
  rw [HN.out]
  have c0 := cell_at_below hb5 w.heap.size 0 (.int .i64 p) (by go_simp)
  have c1 := cell_at_below hb5 w.heap.size 1 (.int .i64 q) (by go_simp)
  have c2 := cell_at_below hb5 (w.heap.size + 1) 0 (.int .i64 r) (by go_simp)
  have c3 := cell_at_below hb5 (w.heap.size + 1) 1 (.int .i64 s) (by go_simp)
  have c4 := cell_at_below hb5 (w.heap.size + 1 + 1) 0 (.int .i64 u) (by go_simp)
  have c5 := cell_at_below hb5 (w.heap.size + 1 + 1) 1 (.int .i64 v) (by go_simp)
  have z0_ : w.heap.size < w5.heap.size := Nat.lt_of_lt_of_le (by first | assumption | (simp; done) | (simp; omega)) hb5.size
  have z1_ : w.heap.size + 1 < w5.heap.size := Nat.lt_of_lt_of_le (by first | assumption | (simp; done) | (simp; omega)) hb5.size
  have z2_ : w.heap.size + 1 + 1 < w5.heap.size := Nat.lt_of_lt_of_le (by first | assumption | (simp; done) | (simp; omega)) hb5.size
  have W5 := Lib.hid (bt hb5 (W4.out))
  clear hb5
  go_wp2_with fail
  refine (lives13_any _ (HG.out.below (W5.out))).mono ?_
  rintro e w6 ⟨rfl, hb6⟩
  have c0 := cell_at_below hb6 w.heap.size 0 (.int .i64 p) (by go_simp)
  have c1 := cell_at_below hb6 w.heap.size 1 (.int .i64 q) (by go_simp)
  have c2 := cell_at_below hb6 (w.heap.size + 1) 0 (.int .i64 r) (by go_simp)
  have c3 := cell_at_below hb6 (w.heap.size + 1) 1 (.int .i64 s) (by go_simp)
  have c4 := cell_at_below hb6 (w.heap.size + 1 + 1) 0 (.int .i64 u) (by go_simp)
  have c5 := cell_at_below hb6 (w.heap.size + 1 + 1) 1 (.int .i64 v) (by go_simp)
  have z0_ : w.heap.size < w6.heap.size := Nat.lt_of_lt_of_le (by first | assumption | (simp; done) | (simp; omega)) hb6.size
  have z1_ : w.heap.size + 1 < w6.heap.size := Nat.lt_of_lt_of_le (by first | assumption | (simp; done) | (simp; omega)) hb6.size
  have z2_ : w.heap.size + 1 + 1 < w6.heap.size := Nat.lt_of_lt_of_le (by first | assumption | (simp; done) | (simp; omega)) hb6.size
  have W6 := Lib.hid (bt hb6 (W5.out))
  clear hb6
  go_wp2_with fail
  refine (SCmp_any r s u v _ h2 h3).mono ?_
  rintro e w7 ⟨rfl, hb7⟩
  rw [E3.out.1, E3.out.2]
  have c0 := cell_at_below hb7 w.heap.size 0 (.int .i64 p) (by go_simp)
  have c1 := cell_at_below hb7 w.heap.size 1 (.int .i64 q) (by go_simp)
  have c2 := cell_at_below hb7 (w.heap.size + 1) 0 (.int .i64 r) (by go_simp)
  have c3 := cell_at_below hb7 (w.heap.size + 1) 1 (.int .i64 s) (by go_simp)
  have c4 := cell_at_below hb7 (w.heap.size + 1 + 1) 0 (.int .i64 u) (by go_simp)
  have c5 := cell_at_below hb7 (w.heap.size + 1 + 1) 1 (.int .i64 v) (by go_simp)
  have z0_ : w.heap.size < w7.heap.size := Nat.lt_of_lt_of_le (by first | assumption | (simp; done) | (simp; omega)) hb7.size
  have z1_ : w.heap.size + 1 < w7.heap.size := Nat.lt_of_lt_of_le (by first | assumption | (simp; done) | (simp; omega)) hb7.size
  have z2_ : w.heap.size + 1 + 1 < w7.heap.size := Nat.lt_of_lt_of_le (by first | assumption | (simp; done) | (simp; omega)) hb7.size
  have W7 := Lib.hid (bt hb7 (W6.out))
  clear hb7
  go_wp2_with fail
  refine (SCmp_any p q u v _ h1 h3).mono ?_
  rintro e w8 ⟨rfl, hb8⟩
  rw [E4.out.1, E4.out.2]
  have c0 := cell_at_below hb8 w.heap.size 0 (.int .i64 p) (by go_simp)
  have c1 := cell_at_below hb8 w.heap.size 1 (.int .i64 q) (by go_simp)
  have c2 := cell_at_below hb8 (w.heap.size + 1) 0 (.int .i64 r) (by go_simp)
  have c3 := cell_at_below hb8 (w.heap.size + 1) 1 (.int .i64 s) (by go_simp)
  have c4 := cell_at_below hb8 (w.heap.size + 1 + 1) 0 (.int .i64 u) (by go_simp)
  have c5 := cell_at_below hb8 (w.heap.size + 1 + 1) 1 (.int .i64 v) (by go_simp)
  have z0_ : w.heap.size < w8.heap.size := Nat.lt_of_lt_of_le (by first | assumption | (simp; done) | (simp; omega)) hb8.size
  have z1_ : w.heap.size + 1 < w8.heap.size := Nat.lt_of_lt_of_le (by first | assumption | (simp; done) | (simp; omega)) hb8.size
  have z2_ : w.heap.size + 1 + 1 < w8.heap.size := Nat.lt_of_lt_of_le (by first | assumption | (simp; done) | (simp; omega)) hb8.size
  have W8 := Lib.hid (bt hb8 (W7.out))
  clear hb8
  have h9 := HFIN.out
  clear bn bk
  go_wp2
  all_goals
    go_ret
    exact ⟨ret_bool (by first | rfl | (simp; done) | (simp_all; done) | (simp at *; omega)), W8.out⟩
set_option maxHeartbeats 2000000 in
set_option maxRecDepth 100000 in
theorem orders_c_1 (p q r s u v n k : Int) (w : World) (hG : G w) (h1 : Fit p q) (h2 : Fit r s) (h3 : Fit u v) (ha : isS p q = true) (hb : isS r s = true) (hc : isS u v = false)
    (hn : oddV p q r s = n) (hm : oddV r s p q = -n) (bn : -1 ≤ n ∧ n ≤ 1) (e0 : (n == 0) = false) (ep : (p == r) = false) (eq : (q == s) = false) :
    Calls Tryd.prog 7 #[.agg #[.int .i64 p, .int .i64 q], .agg #[.int .i64 r, .int .i64 s], .agg #[.int .i64 u, .int .i64 v]] w fun e w' => e = .returned (.bool true) ∧ Below w.heap.size w w' := by
  have HG := Lib.hid hG
  have HA := Lib.hid ha
  have HB := Lib.hid hb
  have HC := Lib.hid hc
  have HN := Lib.hid hn
  have E1 := Lib.hid (show cmpS p q r s = n ∧ cmpSE p q r s = 0 by obtain ⟨a, b⟩ := cmpS_yes ha hb; exact ⟨a.trans hn, b⟩)
  have E2 := Lib.hid (show cmpS r s p q = -n ∧ cmpSE r s p q = 0 by obtain ⟨a, b⟩ := cmpS_yes hb ha; exact ⟨a.trans hm, b⟩)
  have E3 := Lib.hid (cmpS_no (show bothS r s u v = false by unfold bothS; rw [hb, hc]; rfl))
  have E4 := Lib.hid (cmpS_no (show bothS p q u v = false by unfold bothS; rw [ha, hc]; rfl))
  clear hG ha hb hc hn hm
  go_enter Tryd.func7, Tryd.ntmps7
  go_wp2_with fail
  refine (SCmp_any p q r s _ h1 h2).mono ?_
  rintro e w1 ⟨rfl, hb1⟩
  rw [E1.out.1, E1.out.2]
  have c0 := cell_at_below hb1 w.heap.size 0 (.int .i64 p) (by go_simp)
  have c1 := cell_at_below hb1 w.heap.size 1 (.int .i64 q) (by go_simp)
  have c2 := cell_at_below hb1 (w.heap.size + 1) 0 (.int .i64 r) (by go_simp)
  have c3 := cell_at_below hb1 (w.heap.size + 1) 1 (.int .i64 s) (by go_simp)
  have c4 := cell_at_below hb1 (w.heap.size + 1 + 1) 0 (.int .i64 u) (by go_simp)
  have c5 := cell_at_below hb1 (w.heap.size + 1 + 1) 1 (.int .i64 v) (by go_simp)
  have z0_ : w.heap.size < w1.heap.size := Nat.lt_of_lt_of_le (by first | assumption | (simp; done) | (simp; omega)) hb1.size
  have z1_ : w.heap.size + 1 < w1.heap.size := Nat.lt_of_lt_of_le (by first | assumption | (simp; done) | (simp; omega)) hb1.size
  have z2_ : w.heap.size + 1 + 1 < w1.heap.size := Nat.lt_of_lt_of_le (by first | assumption | (simp; done) | (simp; omega)) hb1.size
  have W1 := Lib.hid (bt hb1 ((below_alloc3 w _ _ _)))
  clear hb1
  go_wp2_with fail
  refine (SCmp_any r s p q _ h2 h1).mono ?_
  rintro e w2 ⟨rfl, hb2⟩
  rw [E2.out.1, E2.out.2]
  have c0 := cell_at_below hb2 w.heap.size 0 (.int .i64 p) (by go_simp)
  have c1 := cell_at_below hb2 w.heap.size 1 (.int .i64 q) (by go_simp)
  have c2 := cell_at_below hb2 (w.heap.size + 1) 0 (.int .i64 r) (by go_simp)
  have c3 := cell_at_below hb2 (w.heap.size + 1) 1 (.int .i64 s) (by go_simp)
  have c4 := cell_at_below hb2 (w.heap.size + 1 + 1) 0 (.int .i64 u) (by go_simp)
  have c5 := cell_at_below hb2 (w.heap.size + 1 + 1) 1 (.int .i64 v) (by go_simp)
  have z0_ : w.heap.size < w2.heap.size := Nat.lt_of_lt_of_le (by first | assumption | (simp; done) | (simp; omega)) hb2.size
  have z1_ : w.heap.size + 1 < w2.heap.size := Nat.lt_of_lt_of_le (by first | assumption | (simp; done) | (simp; omega)) hb2.size
  have z2_ : w.heap.size + 1 + 1 < w2.heap.size := Nat.lt_of_lt_of_le (by first | assumption | (simp; done) | (simp; omega)) hb2.size
  have W2 := Lib.hid (bt hb2 (W1.out))
  clear hb2
  go_wp2_with fail
  refine (RSIs_any p q _ h1).mono ?_
  rintro e w3 ⟨rfl, hb3⟩
  rw [HA.out]
  have c0 := cell_at_below hb3 w.heap.size 0 (.int .i64 p) (by go_simp)
  have c1 := cell_at_below hb3 w.heap.size 1 (.int .i64 q) (by go_simp)
  have c2 := cell_at_below hb3 (w.heap.size + 1) 0 (.int .i64 r) (by go_simp)
  have c3 := cell_at_below hb3 (w.heap.size + 1) 1 (.int .i64 s) (by go_simp)
  have c4 := cell_at_below hb3 (w.heap.size + 1 + 1) 0 (.int .i64 u) (by go_simp)
  have c5 := cell_at_below hb3 (w.heap.size + 1 + 1) 1 (.int .i64 v) (by go_simp)
  have z0_ : w.heap.size < w3.heap.size := Nat.lt_of_lt_of_le (by first | assumption | (simp; done) | (simp; omega)) hb3.size
  have z1_ : w.heap.size + 1 < w3.heap.size := Nat.lt_of_lt_of_le (by first | assumption | (simp; done) | (simp; omega)) hb3.size
  have z2_ : w.heap.size + 1 + 1 < w3.heap.size := Nat.lt_of_lt_of_le (by first | assumption | (simp; done) | (simp; omega)) hb3.size
  have W3 := Lib.hid (bt hb3 (W2.out))
  clear hb3
  go_wp2_with fail
  refine (RSIs_any r s _ h2).mono ?_
  rintro e w4 ⟨rfl, hb4⟩
  rw [HB.out]
  have c0 := cell_at_below hb4 w.heap.size 0 (.int .i64 p) (by go_simp)
  have c1 := cell_at_below hb4 w.heap.size 1 (.int .i64 q) (by go_simp)
  have c2 := cell_at_below hb4 (w.heap.size + 1) 0 (.int .i64 r) (by go_simp)
  have c3 := cell_at_below hb4 (w.heap.size + 1) 1 (.int .i64 s) (by go_simp)
  have c4 := cell_at_below hb4 (w.heap.size + 1 + 1) 0 (.int .i64 u) (by go_simp)
  have c5 := cell_at_below hb4 (w.heap.size + 1 + 1) 1 (.int .i64 v) (by go_simp)
  have z0_ : w.heap.size < w4.heap.size := Nat.lt_of_lt_of_le (by first | assumption | (simp; done) | (simp; omega)) hb4.size
  have z1_ : w.heap.size + 1 < w4.heap.size := Nat.lt_of_lt_of_le (by first | assumption | (simp; done) | (simp; omega)) hb4.size
  have z2_ : w.heap.size + 1 + 1 < w4.heap.size := Nat.lt_of_lt_of_le (by first | assumption | (simp; done) | (simp; omega)) hb4.size
  have W4 := Lib.hid (bt hb4 (W3.out))
  clear hb4
  go_wp2_with fail
  refine (Odder_any p q r s _ HA.out HB.out).mono ?_
  rintro e w5 ⟨rfl, hb5⟩
  rw [HN.out]
  have c0 := cell_at_below hb5 w.heap.size 0 (.int .i64 p) (by go_simp)
  have c1 := cell_at_below hb5 w.heap.size 1 (.int .i64 q) (by go_simp)
  have c2 := cell_at_below hb5 (w.heap.size + 1) 0 (.int .i64 r) (by go_simp)
  have c3 := cell_at_below hb5 (w.heap.size + 1) 1 (.int .i64 s) (by go_simp)
  have c4 := cell_at_below hb5 (w.heap.size + 1 + 1) 0 (.int .i64 u) (by go_simp)
  have c5 := cell_at_below hb5 (w.heap.size + 1 + 1) 1 (.int .i64 v) (by go_simp)
  have z0_ : w.heap.size < w5.heap.size := Nat.lt_of_lt_of_le (by first | assumption | (simp; done) | (simp; omega)) hb5.size
  have z1_ : w.heap.size + 1 < w5.heap.size := Nat.lt_of_lt_of_le (by first | assumption | (simp; done) | (simp; omega)) hb5.size
  have z2_ : w.heap.size + 1 + 1 < w5.heap.size := Nat.lt_of_lt_of_le (by first | assumption | (simp; done) | (simp; omega)) hb5.size
  have W5 := Lib.hid (bt hb5 (W4.out))
  clear hb5
  go_wp2_with fail
  refine (lives13_any _ (HG.out.below (W5.out))).mono ?_
  rintro e w6 ⟨rfl, hb6⟩
  have c0 := cell_at_below hb6 w.heap.size 0 (.int .i64 p) (by go_simp)
  have c1 := cell_at_below hb6 w.heap.size 1 (.int .i64 q) (by go_simp)
  have c2 := cell_at_below hb6 (w.heap.size + 1) 0 (.int .i64 r) (by go_simp)
  have c3 := cell_at_below hb6 (w.heap.size + 1) 1 (.int .i64 s) (by go_simp)
  have c4 := cell_at_below hb6 (w.heap.size + 1 + 1) 0 (.int .i64 u) (by go_simp)
  have c5 := cell_at_below hb6 (w.heap.size + 1 + 1) 1 (.int .i64 v) (by go_simp)
  have z0_ : w.heap.size < w6.heap.size := Nat.lt_of_lt_of_le (by first | assumption | (simp; done) | (simp; omega)) hb6.size
  have z1_ : w.heap.size + 1 < w6.heap.size := Nat.lt_of_lt_of_le (by first | assumption | (simp; done) | (simp; omega)) hb6.size
  have z2_ : w.heap.size + 1 + 1 < w6.heap.size := Nat.lt_of_lt_of_le (by first | assumption | (simp; done) | (simp; omega)) hb6.size
  have W6 := Lib.hid (bt hb6 (W5.out))
  clear hb6
  go_wp2_with fail
  refine (SCmp_any r s u v _ h2 h3).mono ?_
  rintro e w7 ⟨rfl, hb7⟩
  rw [E3.out.1, E3.out.2]
  have c0 := cell_at_below hb7 w.heap.size 0 (.int .i64 p) (by go_simp)
  have c1 := cell_at_below hb7 w.heap.size 1 (.int .i64 q) (by go_simp)
  have c2 := cell_at_below hb7 (w.heap.size + 1) 0 (.int .i64 r) (by go_simp)
  have c3 := cell_at_below hb7 (w.heap.size + 1) 1 (.int .i64 s) (by go_simp)
  have c4 := cell_at_below hb7 (w.heap.size + 1 + 1) 0 (.int .i64 u) (by go_simp)
  have c5 := cell_at_below hb7 (w.heap.size + 1 + 1) 1 (.int .i64 v) (by go_simp)
  have z0_ : w.heap.size < w7.heap.size := Nat.lt_of_lt_of_le (by first | assumption | (simp; done) | (simp; omega)) hb7.size
  have z1_ : w.heap.size + 1 < w7.heap.size := Nat.lt_of_lt_of_le (by first | assumption | (simp; done) | (simp; omega)) hb7.size
  have z2_ : w.heap.size + 1 + 1 < w7.heap.size := Nat.lt_of_lt_of_le (by first | assumption | (simp; done) | (simp; omega)) hb7.size
  have W7 := Lib.hid (bt hb7 (W6.out))
  clear hb7
  go_wp2_with fail
  refine (SCmp_any p q u v _ h1 h3).mono ?_
  rintro e w8 ⟨rfl, hb8⟩
  rw [E4.out.1, E4.out.2]
  have c0 := cell_at_below hb8 w.heap.size 0 (.int .i64 p) (by go_simp)
  have c1 := cell_at_below hb8 w.heap.size 1 (.int .i64 q) (by go_simp)
  have c2 := cell_at_below hb8 (w.heap.size + 1) 0 (.int .i64 r) (by go_simp)
  have c3 := cell_at_below hb8 (w.heap.size + 1) 1 (.int .i64 s) (by go_simp)
  have c4 := cell_at_below hb8 (w.heap.size + 1 + 1) 0 (.int .i64 u) (by go_simp)
  have c5 := cell_at_below hb8 (w.heap.size + 1 + 1) 1 (.int .i64 v) (by go_simp)
  have z0_ : w.heap.size < w8.heap.size := Nat.lt_of_lt_of_le (by first | assumption | (simp; done) | (simp; omega)) hb8.size
  have z1_ : w.heap.size + 1 < w8.heap.size := Nat.lt_of_lt_of_le (by first | assumption | (simp; done) | (simp; omega)) hb8.size
  have z2_ : w.heap.size + 1 + 1 < w8.heap.size := Nat.lt_of_lt_of_le (by first | assumption | (simp; done) | (simp; omega)) hb8.size
  have W8 := Lib.hid (bt hb8 (W7.out))
  clear hb8
  go_wp2_with fail
  refine (RSIs_any u v _ h3).mono ?_
  rintro e w9 ⟨rfl, hb9⟩
  rw [HC.out]
  have c0 := cell_at_below hb9 w.heap.size 0 (.int .i64 p) (by go_simp)
  have c1 := cell_at_below hb9 w.heap.size 1 (.int .i64 q) (by go_simp)
  have c2 := cell_at_below hb9 (w.heap.size + 1) 0 (.int .i64 r) (by go_simp)
  have c3 := cell_at_below hb9 (w.heap.size + 1) 1 (.int .i64 s) (by go_simp)
  have c4 := cell_at_below hb9 (w.heap.size + 1 + 1) 0 (.int .i64 u) (by go_simp)
  have c5 := cell_at_below hb9 (w.heap.size + 1 + 1) 1 (.int .i64 v) (by go_simp)
  have z0_ : w.heap.size < w9.heap.size := Nat.lt_of_lt_of_le (by first | assumption | (simp; done) | (simp; omega)) hb9.size
  have z1_ : w.heap.size + 1 < w9.heap.size := Nat.lt_of_lt_of_le (by first | assumption | (simp; done) | (simp; omega)) hb9.size
  have z2_ : w.heap.size + 1 + 1 < w9.heap.size := Nat.lt_of_lt_of_le (by first | assumption | (simp; done) | (simp; omega)) hb9.size
  have W9 := Lib.hid (bt hb9 (W8.out))
  clear hb9
  go_wp2
  go_ret
  exact ⟨rfl, W9.out⟩
set_option maxHeartbeats 2000000 in
set_option maxRecDepth 100000 in
theorem orders_x_1 (p q r s u v n k : Int) (w : World) (hG : G w) (h1 : Fit p q) (h2 : Fit r s) (h3 : Fit u v) (ha : isS p q = true) (hb : isS r s = true) (hc : isS u v = true)
    (hn : oddV p q r s = n) (hm : oddV r s p q = -n) (bn : -1 ≤ n ∧ n ≤ 1) (e0 : (n == 0) = false) (ep : (p == r) = false) (eq : (q == s) = false) (hk : oddV r s u v = k) (bk : -1 ≤ k ∧ k ≤ 1) (x : Int) (hx : oddV p q u v = x) (hfin : (decide (n < 0) || decide (k < 0) || x == max n k) = true) :
    Calls Tryd.prog 7 #[.agg #[.int .i64 p, .int .i64 q], .agg #[.int .i64 r, .int .i64 s], .agg #[.int .i64 u, .int .i64 v]] w fun e w' => e = .returned (.bool true) ∧ Below w.heap.size w w' := by
  have HG := Lib.hid hG
  have HA := Lib.hid ha
  have HB := Lib.hid hb
  have HC := Lib.hid hc
  have HN := Lib.hid hn
  have E1 := Lib.hid (show cmpS p q r s = n ∧ cmpSE p q r s = 0 by obtain ⟨a, b⟩ := cmpS_yes ha hb; exact ⟨a.trans hn, b⟩)
  have E2 := Lib.hid (show cmpS r s p q = -n ∧ cmpSE r s p q = 0 by obtain ⟨a, b⟩ := cmpS_yes hb ha; exact ⟨a.trans hm, b⟩)
  have E3 := Lib.hid (show cmpS r s u v = k ∧ cmpSE r s u v = 0 by obtain ⟨a, b⟩ := cmpS_yes hb hc; exact ⟨a.trans hk, b⟩)
  have E4 := Lib.hid (show cmpS p q u v = x ∧ cmpSE p q u v = 0 by obtain ⟨a, b⟩ := cmpS_yes ha hc; exact ⟨a.trans hx, b⟩)
  have HFIN := Lib.hid hfin
  clear hG ha hb hc hn hm hk hx hfin
  go_enter Tryd.func7, Tryd.ntmps7
  go_wp2_with fail
  refine (SCmp_any p q r s _ h1 h2).mono ?_
  rintro e w1 ⟨rfl, hb1⟩
  rw [E1.out.1, E1.out.2]
  have c0 := cell_at_below hb1 w.heap.size 0 (.int .i64 p) (by go_simp)
  have c1 := cell_at_below hb1 w.heap.size 1 (.int .i64 q) (by go_simp)
  have c2 := cell_at_below hb1 (w.heap.size + 1) 0 (.int .i64 r) (by go_simp)
  have c3 := cell_at_below hb1 (w.heap.size + 1) 1 (.int .i64 s) (by go_simp)
  have c4 := cell_at_below hb1 (w.heap.size + 1 + 1) 0 (.int .i64 u) (by go_simp)
  have c5 := cell_at_below hb1 (w.heap.size + 1 + 1) 1 (.int .i64 v) (by go_simp)
  have z0_ : w.heap.size < w1.heap.size := Nat.lt_of_lt_of_le (by first | assumption | (simp; done) | (simp; omega)) hb1.size
  have z1_ : w.heap.size + 1 < w1.heap.size := Nat.lt_of_lt_of_le (by first | assumption | (simp; done) | (simp; omega)) hb1.size
  have z2_ : w.heap.size + 1 + 1 < w1.heap.size := Nat.lt_of_lt_of_le (by first | assumption | (simp; done) | (simp; omega)) hb1.size
  have W1 := Lib.hid (bt hb1 ((below_alloc3 w _ _ _)))
  clear hb1
  go_wp2_with fail
  refine (SCmp_any r s p q _ h2 h1).mono ?_
  rintro e w2 ⟨rfl, hb2⟩
  rw [E2.out.1, E2.out.2]
  have c0 := cell_at_below hb2 w.heap.size 0 (.int .i64 p) (by go_simp)
  have c1 := cell_at_below hb2 w.heap.size 1 (.int .i64 q) (by go_simp)
  have c2 := cell_at_below hb2 (w.heap.size + 1) 0 (.int .i64 r) (by go_simp)
  have c3 := cell_at_below hb2 (w.heap.size + 1) 1 (.int .i64 s) (by go_simp)
  have c4 := cell_at_below hb2 (w.heap.size + 1 + 1) 0 (.int .i64 u) (by go_simp)
  have c5 := cell_at_below hb2 (w.heap.size + 1 + 1) 1 (.int .i64 v) (by go_simp)
  have z0_ : w.heap.size < w2.heap.size := Nat.lt_of_lt_of_le (by first | assumption | (simp; done) | (simp; omega)) hb2.size
  have z1_ : w.heap.size + 1 < w2.heap.size := Nat.lt_of_lt_of_le (by first | assumption | (simp; done) | (simp; omega)) hb2.size
  have z2_ : w.heap.size + 1 + 1 < w2.heap.size := Nat.lt_of_lt_of_le (by first | assumption | (simp; done) | (simp; omega)) hb2.size
  have W2 := Lib.hid (bt hb2 (W1.out))
  clear hb2
  go_wp2_with fail
  refine (RSIs_any p q _ h1).mono ?_
  rintro e w3 ⟨rfl, hb3⟩
  rw [HA.out]
  have c0 := cell_at_below hb3 w.heap.size 0 (.int .i64 p) (by go_simp)
  have c1 := cell_at_below hb3 w.heap.size 1 (.int .i64 q) (by go_simp)
  have c2 := cell_at_below hb3 (w.heap.size + 1) 0 (.int .i64 r) (by go_simp)
  have c3 := cell_at_below hb3 (w.heap.size + 1) 1 (.int .i64 s) (by go_simp)
  have c4 := cell_at_below hb3 (w.heap.size + 1 + 1) 0 (.int .i64 u) (by go_simp)
  have c5 := cell_at_below hb3 (w.heap.size + 1 + 1) 1 (.int .i64 v) (by go_simp)
  have z0_ : w.heap.size < w3.heap.size := Nat.lt_of_lt_of_le (by first | assumption | (simp; done) | (simp; omega)) hb3.size
  have z1_ : w.heap.size + 1 < w3.heap.size := Nat.lt_of_lt_of_le (by first | assumption | (simp; done) | (simp; omega)) hb3.size
  have z2_ : w.heap.size + 1 + 1 < w3.heap.size := Nat.lt_of_lt_of_le (by first | assumption | (simp; done) | (simp; omega)) hb3.size
  have W3 := Lib.hid (bt hb3 (W2.out))
  clear hb3
  go_wp2_with fail
  refine (RSIs_any r s _ h2).mono ?_
  rintro e w4 ⟨rfl, hb4⟩
  rw [HB.out]
  have c0 := cell_at_below hb4 w.heap.size 0 (.int .i64 p) (by go_simp)
  have c1 := cell_at_below hb4 w.heap.size 1 (.int .i64 q) (by go_simp)
  have c2 := cell_at_below hb4 (w.heap.size + 1) 0 (.int .i64 r) (by go_simp)
  have c3 := cell_at_below hb4 (w.heap.size + 1) 1 (.int .i64 s) (by go_simp)
  have c4 := cell_at_below hb4 (w.heap.size + 1 + 1) 0 (.int .i64 u) (by go_simp)
  have c5 := cell_at_below hb4 (w.heap.size + 1 + 1) 1 (.int .i64 v) (by go_simp)
  have z0_ : w.heap.size < w4.heap.size := Nat.lt_of_lt_of_le (by first | assumption | (simp; done) | (simp; omega)) hb4.size
  have z1_ : w.heap.size + 1 < w4.heap.size := Nat.lt_of_lt_of_le (by first | assumption | (simp; done) | (simp; omega)) hb4.size
  have z2_ : w.heap.size + 1 + 1 < w4.heap.size := Nat.lt_of_lt_of_le (by first | assumption | (simp; done) | (simp; omega)) hb4.size
  have W4 := Lib.hid (bt hb4 (W3.out))
  clear hb4
  go_wp2_with fail
  refine (Odder_any p q r s _ HA.out HB.out).mono ?_
  rintro e w5 ⟨rfl, hb5⟩
  rw [HN.out]
  have c0 := cell_at_below hb5 w.heap.size 0 (.int .i64 p) (by go_simp)
  have c1 := cell_at_below hb5 w.heap.size 1 (.int .i64 q) (by go_simp)
  have c2 := cell_at_below hb5 (w.heap.size + 1) 0 (.int .i64 r) (by go_simp)
  have c3 := cell_at_below hb5 (w.heap.size + 1) 1 (.int .i64 s) (by go_simp)
  have c4 := cell_at_below hb5 (w.heap.size + 1 + 1) 0 (.int .i64 u) (by go_simp)
  have c5 := cell_at_below hb5 (w.heap.size + 1 + 1) 1 (.int .i64 v) (by go_simp)
  have z0_ : w.heap.size < w5.heap.size := Nat.lt_of_lt_of_le (by first | assumption | (simp; done) | (simp; omega)) hb5.size
  have z1_ : w.heap.size + 1 < w5.heap.size := Nat.lt_of_lt_of_le (by first | assumption | (simp; done) | (simp; omega)) hb5.size
  have z2_ : w.heap.size + 1 + 1 < w5.heap.size := Nat.lt_of_lt_of_le (by first | assumption | (simp; done) | (simp; omega)) hb5.size
  have W5 := Lib.hid (bt hb5 (W4.out))
  clear hb5
  go_wp2_with fail
  refine (lives13_any _ (HG.out.below (W5.out))).mono ?_
  rintro e w6 ⟨rfl, hb6⟩
  have c0 := cell_at_below hb6 w.heap.size 0 (.int .i64 p) (by go_simp)
  have c1 := cell_at_below hb6 w.heap.size 1 (.int .i64 q) (by go_simp)
  have c2 := cell_at_below hb6 (w.heap.size + 1) 0 (.int .i64 r) (by go_simp)
  have c3 := cell_at_below hb6 (w.heap.size + 1) 1 (.int .i64 s) (by go_simp)
  have c4 := cell_at_below hb6 (w.heap.size + 1 + 1) 0 (.int .i64 u) (by go_simp)
  have c5 := cell_at_below hb6 (w.heap.size + 1 + 1) 1 (.int .i64 v) (by go_simp)
  have z0_ : w.heap.size < w6.heap.size := Nat.lt_of_lt_of_le (by first | assumption | (simp; done) | (simp; omega)) hb6.size
  have z1_ : w.heap.size + 1 < w6.heap.size := Nat.lt_of_lt_of_le (by first | assumption | (simp; done) | (simp; omega)) hb6.size
  have z2_ : w.heap.size + 1 + 1 < w6.heap.size := Nat.lt_of_lt_of_le (by first | assumption | (simp; done) | (simp; omega)) hb6.size
  have W6 := Lib.hid (bt hb6 (W5.out))
  clear hb6
  go_wp2_with fail
  refine (SCmp_any r s u v _ h2 h3).mono ?_
  rintro e w7 ⟨rfl, hb7⟩
  rw [E3.out.1, E3.out.2]
  have c0 := cell_at_below hb7 w.heap.size 0 (.int .i64 p) (by go_simp)
  have c1 := cell_at_below hb7 w.heap.size 1 (.int .i64 q) (by go_simp)
  have c2 := cell_at_below hb7 (w.heap.size + 1) 0 (.int .i64 r) (by go_simp)
  have c3 := cell_at_below hb7 (w.heap.size + 1) 1 (.int .i64 s) (by go_simp)
  have c4 := cell_at_below hb7 (w.heap.size + 1 + 1) 0 (.int .i64 u) (by go_simp)
  have c5 := cell_at_below hb7 (w.heap.size + 1 + 1) 1 (.int .i64 v) (by go_simp)
  have z0_ : w.heap.size < w7.heap.size := Nat.lt_of_lt_of_le (by first | assumption | (simp; done) | (simp; omega)) hb7.size
  have z1_ : w.heap.size + 1 < w7.heap.size := Nat.lt_of_lt_of_le (by first | assumption | (simp; done) | (simp; omega)) hb7.size
  have z2_ : w.heap.size + 1 + 1 < w7.heap.size := Nat.lt_of_lt_of_le (by first | assumption | (simp; done) | (simp; omega)) hb7.size
  have W7 := Lib.hid (bt hb7 (W6.out))
  clear hb7
  go_wp2_with fail
  refine (SCmp_any p q u v _ h1 h3).mono ?_
  rintro e w8 ⟨rfl, hb8⟩
  rw [E4.out.1, E4.out.2]
  have c0 := cell_at_below hb8 w.heap.size 0 (.int .i64 p) (by go_simp)
  have c1 := cell_at_below hb8 w.heap.size 1 (.int .i64 q) (by go_simp)
  have c2 := cell_at_below hb8 (w.heap.size + 1) 0 (.int .i64 r) (by go_simp)
  have c3 := cell_at_below hb8 (w.heap.size + 1) 1 (.int .i64 s) (by go_simp)
  have c4 := cell_at_below hb8 (w.heap.size + 1 + 1) 0 (.int .i64 u) (by go_simp)
  have c5 := cell_at_below hb8 (w.heap.size + 1 + 1) 1 (.int .i64 v) (by go_simp)
  have z0_ : w.heap.size < w8.heap.size := Nat.lt_of_lt_of_le (by first | assumption | (simp; done) | (simp; omega)) hb8.size
  have z1_ : w.heap.size + 1 < w8.heap.size := Nat.lt_of_lt_of_le (by first | assumption | (simp; done) | (simp; omega)) hb8.size
  have z2_ : w.heap.size + 1 + 1 < w8.heap.size := Nat.lt_of_lt_of_le (by first | assumption | (simp; done) | (simp; omega)) hb8.size
  have W8 := Lib.hid (bt hb8 (W7.out))
  clear hb8
  have h9 := HFIN.out
  clear bn bk
  go_wp2
  all_goals
    go_ret
    exact ⟨ret_bool (by first | rfl | (simp; done) | (simp_all; done) | (simp at *; omega)), W8.out⟩
set_option maxHeartbeats 2000000 in
set_option maxRecDepth 100000 in
theorem orders_c_2 (p q r s u v n k : Int) (w : World) (hG : G w) (h1 : Fit p q) (h2 : Fit r s) (h3 : Fit u v) (ha : isS p q = true) (hb : isS r s = true) (hc : isS u v = false)
    (hn : oddV p q r s = n) (hm : oddV r s p q = -n) (bn : -1 ≤ n ∧ n ≤ 1) (e0 : (n == 0) = false) (ep : (p == r) = false) (eq : (q == s) = true) :
    Calls Tryd.prog 7 #[.agg #[.int .i64 p, .int .i64 q], .agg #[.int .i64 r, .int .i64 s], .agg #[.int .i64 u, .int .i64 v]] w fun e w' => e = .returned (.bool true) ∧ Below w.heap.size w w' := by
  have HG := Lib.hid hG
  have HA := Lib.hid ha
  have HB := Lib.hid hb
  have HC := Lib.hid hc
  have HN := Lib.hid hn
  have E1 := Lib.hid (show cmpS p q r s = n ∧ cmpSE p q r s = 0 by obtain ⟨a, b⟩ := cmpS_yes ha hb; exact ⟨a.trans hn, b⟩)
  have E2 := Lib.hid (show cmpS r s p q = -n ∧ cmpSE r s p q = 0 by obtain ⟨a, b⟩ := cmpS_yes hb ha; exact ⟨a.trans hm, b⟩)
  have E3 := Lib.hid (cmpS_no (show bothS r s u v = false by unfold bothS; rw [hb, hc]; rfl))
  have E4 := Lib.hid (cmpS_no (show bothS p q u v = false by unfold bothS; rw [ha, hc]; rfl))
  clear hG ha hb hc hn hm
  go_enter Tryd.func7, Tryd.ntmps7
  go_wp2_with fail
  refine (SCmp_any p q r s _ h1 h2).mono ?_
  rintro e w1 ⟨rfl, hb1⟩
  rw [E1.out.1, E1.out.2]
  have c0 := cell_at_below hb1 w.heap.size 0 (.int .i64 p) (by go_simp)
  have c1 := cell_at_below hb1 w.heap.size 1 (.int .i64 q) (by go_simp)
  have c2 := cell_at_below hb1 (w.heap.size + 1) 0 (.int .i64 r) (by go_simp)
  have c3 := cell_at_below hb1 (w.heap.size + 1) 1 (.int .i64 s) (by go_simp)
  have c4 := cell_at_below hb1 (w.heap.size + 1 + 1) 0 (.int .i64 u) (by go_simp)
  have c5 := cell_at_below hb1 (w.heap.size + 1 + 1) 1 (.int .i64 v) (by go_simp)
  have z0_ : w.heap.size < w1.heap.size := Nat.lt_of_lt_of_le (by first | assumption | (simp; done) | (simp; omega)) hb1.size
  have z1_ : w.heap.size + 1 < w1.heap.size := Nat.lt_of_lt_of_le (by first | assumption | (simp; done) | (simp; omega)) hb1.size
  have z2_ : w.heap.size + 1 + 1 < w1.heap.size := Nat.lt_of_lt_of_le (by first | assumption | (simp; done) | (simp; omega)) hb1.size
  have W1 := Lib.hid (bt hb1 ((below_alloc3 w _ _ _)))
  clear hb1
  go_wp2_with fail
  refine (SCmp_any r s p q _ h2 h1).mono ?_
  rintro e w2 ⟨rfl, hb2⟩
  rw [E2.out.1, E2.out.2]
  have c0 := cell_at_below hb2 w.heap.size 0 (.int .i64 p) (by go_simp)
  have c1 := cell_at_below hb2 w.heap.size 1 (.int .i64 q) (by go_simp)
  have c2 := cell_at_below hb2 (w.heap.size + 1) 0 (.int .i64 r) (by go_simp)
  have c3 := cell_at_below hb2 (w.heap.size + 1) 1 (.int .i64 s) (by go_simp)
  have c4 := cell_at_below hb2 (w.heap.size + 1 + 1) 0 (.int .i64 u) (by go_simp)
  have c5 := cell_at_below hb2 (w.heap.size + 1 + 1) 1 (.int .i64 v) (by go_simp)
  have z0_ : w.heap.size < w2.heap.size := Nat.lt_of_lt_of_le (by first | assumption | (simp; done) | (simp; omega)) hb2.size
  have z1_ : w.heap.size + 1 < w2.heap.size := Nat.lt_of_lt_of_le (by first | assumption | (simp; done) | (simp; omega)) hb2.size
  have z2_ : w.heap.size + 1 + 1 < w2.heap.size := Nat.lt_of_lt_of_le (by first | assumption | (simp; done) | (simp; omega)) hb2.size
  have W2 := Lib.hid (bt hb2 (W1.out))
  clear hb2
  go_wp2_with fail
  refine (RSIs_any p q _ h1).mono ?_
  rintro e w3 ⟨rfl, hb3⟩
  rw [HA.out]
  have c0 := cell_at_below hb3 w.heap.size 0 (.int .i64 p) (by go_simp)
  have c1 := cell_at_below hb3 w.heap.size 1 (.int .i64 q) (by go_simp)
  have c2 := cell_at_below hb3 (w.heap.size + 1) 0 (.int .i64 r) (by go_simp)
  have c3 := cell_at_below hb3 (w.heap.size + 1) 1 (.int .i64 s) (by go_simp)
  have c4 := cell_at_below hb3 (w.heap.size + 1 + 1) 0 (.int .i64 u) (by go_simp)
  have c5 := cell_at_below hb3 (w.heap.size + 1 + 1) 1 (.int .i64 v) (by go_simp)
  have z0_ : w.heap.size < w3.heap.size := Nat.lt_of_lt_of_le (by first | assumption | (simp; done) | (simp; omega)) hb3.size
  have z1_ : w.heap.size + 1 < w3.heap.size := Nat.lt_of_lt_of_le (by first | assumption | (simp; done) | (simp; omega)) hb3.size
  have z2_ : w.heap.size + 1 + 1 < w3.heap.size := Nat.lt_of_lt_of_le (by first | assumption | (simp; done) | (simp; omega)) hb3.size
  have W3 := Lib.hid (bt hb3 (W2.out))
  clear hb3
  go_wp2_with fail
  refine (RSIs_any r s _ h2).mono ?_
  rintro e w4 ⟨rfl, hb4⟩
  rw [HB.out]
  have c0 := cell_at_below hb4 w.heap.size 0 (.int .i64 p) (by go_simp)
  have c1 := cell_at_below hb4 w.heap.size 1 (.int .i64 q) (by go_simp)
  have c2 := cell_at_below hb4 (w.heap.size + 1) 0 (.int .i64 r) (by go_simp)
  have c3 := cell_at_below hb4 (w.heap.size + 1) 1 (.int .i64 s) (by go_simp)
  have c4 := cell_at_below hb4 (w.heap.size + 1 + 1) 0 (.int .i64 u) (by go_simp)
  have c5 := cell_at_below hb4 (w.heap.size + 1 + 1) 1 (.int .i64 v) (by go_simp)
  have z0_ : w.heap.size < w4.heap.size := Nat.lt_of_lt_of_le (by first | assumption | (simp; done) | (simp; omega)) hb4.size
  have z1_ : w.heap.size + 1 < w4.heap.size := Nat.lt_of_lt_of_le (by first | assumption | (simp; done) | (simp; omega)) hb4.size
  have z2_ : w.heap.size + 1 + 1 < w4.heap.size := Nat.lt_of_lt_of_le (by first | assumption | (simp; done) | (simp; omega)) hb4.size
  have W4 := Lib.hid (bt hb4 (W3.out))
  clear hb4
  go_wp2_with fail
  refine (Odder_any p q r s _ HA.out HB.out).mono ?_
  rintro e w5 ⟨rfl, hb5⟩
  rw [HN.out]
  have c0 := cell_at_below hb5 w.heap.size 0 (.int .i64 p) (by go_simp)
  have c1 := cell_at_below hb5 w.heap.size 1 (.int .i64 q) (by go_simp)
  have c2 := cell_at_below hb5 (w.heap.size + 1) 0 (.int .i64 r) (by go_simp)
  have c3 := cell_at_below hb5 (w.heap.size + 1) 1 (.int .i64 s) (by go_simp)
  have c4 := cell_at_below hb5 (w.heap.size + 1 + 1) 0 (.int .i64 u) (by go_simp)
  have c5 := cell_at_below hb5 (w.heap.size + 1 + 1) 1 (.int .i64 v) (by go_simp)
  have z0_ : w.heap.size < w5.heap.size := Nat.lt_of_lt_of_le (by first | assumption | (simp; done) | (simp; omega)) hb5.size
  have z1_ : w.heap.size + 1 < w5.heap.size := Nat.lt_of_lt_of_le (by first | assumption | (simp; done) | (simp; omega)) hb5.size
  have z2_ : w.heap.size + 1 + 1 < w5.heap.size := Nat.lt_of_lt_of_le (by first | assumption | (simp; done) | (simp; omega)) hb5.size
  have W5 := Lib.hid (bt hb5 (W4.out))
  clear hb5
  go_wp2_with fail
  refine (lives13_any _ (HG.out.below (W5.out))).mono ?_
  rintro e w6 ⟨rfl, hb6⟩
  have c0 := cell_at_below hb6 w.heap.size 0 (.int .i64 p) (by go_simp)
  have c1 := cell_at_below hb6 w.heap.size 1 (.int .i64 q) (by go_simp)
  have c2 := cell_at_below hb6 (w.heap.size + 1) 0 (.int .i64 r) (by go_simp)
  have c3 := cell_at_below hb6 (w.heap.size + 1) 1 (.int .i64 s) (by go_simp)
  have c4 := cell_at_below hb6 (w.heap.size + 1 + 1) 0 (.int .i64 u) (by go_simp)
  have c5 := cell_at_below hb6 (w.heap.size + 1 + 1) 1 (.int .i64 v) (by go_simp)
  have z0_ : w.heap.size < w6.heap.size := Nat.lt_of_lt_of_le (by first | assumption | (simp; done) | (simp; omega)) hb6.size
  have z1_ : w.heap.size + 1 < w6.heap.size := Nat.lt_of_lt_of_le (by first | assumption | (simp; done) | (simp; omega)) hb6.size
  have z2_ : w.heap.size + 1 + 1 < w6.heap.size := Nat.lt_of_lt_of_le (by first | assumption | (simp; done) | (simp; omega)) hb6.size
  have W6 := Lib.hid (bt hb6 (W5.out))
  clear hb6
  go_wp2_with fail
  refine (SCmp_any r s u v _ h2 h3).mono ?_
  rintro e w7 ⟨rfl, hb7⟩
  rw [E3.out.1, E3.out.2]
  have c0 := cell_at_below hb7 w.heap.size 0 (.int .i64 p) (by go_simp)
  have c1 := cell_at_below hb7 w.heap.size 1 (.int .i64 q) (by go_simp)
  have c2 := cell_at_below hb7 (w.heap.size + 1) 0 (.int .i64 r) (by go_simp)
  have c3 := cell_at_below hb7 (w.heap.size + 1) 1 (.int .i64 s) (by go_simp)
  have c4 := cell_at_below hb7 (w.heap.size + 1 + 1) 0 (.int .i64 u) (by go_simp)
  have c5 := cell_at_below hb7 (w.heap.size + 1 + 1) 1 (.int .i64 v) (by go_simp)
  have z0_ : w.heap.size < w7.heap.size := Nat.lt_of_lt_of_le (by first | assumption | (simp; done) | (simp; omega)) hb7.size
  have z1_ : w.heap.size + 1 < w7.heap.size := Nat.lt_of_lt_of_le (by first | assumption | (simp; done) | (simp; omega)) hb7.size
  have z2_ : w.heap.size + 1 + 1 < w7.heap.size := Nat.lt_of_lt_of_le (by first | assumption | (simp; done) | (simp; omega)) hb7.size
  have W7 := Lib.hid (bt hb7 (W6.out))
  clear hb7
  go_wp2_with fail
  refine (SCmp_any p q u v _ h1 h3).mono ?_
  rintro e w8 ⟨rfl, hb8⟩
  rw [E4.out.1, E4.out.2]
  have c0 := cell_at_below hb8 w.heap.size 0 (.int .i64 p) (by go_simp)
  have c1 := cell_at_below hb8 w.heap.size 1 (.int .i64 q) (by go_simp)
  have c2 := cell_at_below hb8 (w.heap.size + 1) 0 (.int .i64 r) (by go_simp)
  have c3 := cell_at_below hb8 (w.heap.size + 1) 1 (.int .i64 s) (by go_simp)
  have c4 := cell_at_below hb8 (w.heap.size + 1 + 1) 0 (.int .i64 u) (by go_simp)
  have c5 := cell_at_below hb8 (w.heap.size + 1 + 1) 1 (.int .i64 v) (by go_simp)
  have z0_ : w.heap.size < w8.heap.size := Nat.lt_of_lt_of_le (by first | assumption | (simp; done) | (simp; omega)) hb8.size
  have z1_ : w.heap.size + 1 < w8.heap.size := Nat.lt_of_lt_of_le (by first | assumption | (simp; done) | (simp; omega)) hb8.size
  have z2_ : w.heap.size + 1 + 1 < w8.heap.size := Nat.lt_of_lt_of_le (by first | assumption | (simp; done) | (simp; omega)) hb8.size
  have W8 := Lib.hid (bt hb8 (W7.out))
  clear hb8
  go_wp2_with fail
  refine (RSIs_any u v _ h3).mono ?_
  rintro e w9 ⟨rfl, hb9⟩
  rw [HC.out]
  have c0 := cell_at_below hb9 w.heap.size 0 (.int .i64 p) (by go_simp)
  have c1 := cell_at_below hb9 w.heap.size 1 (.int .i64 q) (by go_simp)
  have c2 := cell_at_below hb9 (w.heap.size + 1) 0 (.int .i64 r) (by go_simp)
  have c3 := cell_at_below hb9 (w.heap.size + 1) 1 (.int .i64 s) (by go_simp)
  have c4 := cell_at_below hb9 (w.heap.size + 1 + 1) 0 (.int .i64 u) (by go_simp)
  have c5 := cell_at_below hb9 (w.heap.size + 1 + 1) 1 (.int .i64 v) (by go_simp)
  have z0_ : w.heap.size < w9.heap.size := Nat.lt_of_lt_of_le (by first | assumption | (simp; done) | (simp; omega)) hb9.size
  have z1_ : w.heap.size + 1 < w9.heap.size := Nat.lt_of_lt_of_le (by first | assumption | (simp; done) | (simp; omega)) hb9.size
  have z2_ : w.heap.size + 1 + 1 < w9.heap.size := Nat.lt_of_lt_of_le (by first | assumption | (simp; done) | (simp; omega)) hb9.size
  have W9 := Lib.hid (bt hb9 (W8.out))
  clear hb9
  go_wp2
  go_ret
  exact ⟨rfl, W9.out⟩
set_option maxHeartbeats 2000000 in
set_option maxRecDepth 100000 in
theorem orders_x_2 (p q r s u v n k : Int) (w : World) (hG : G w) (h1 : Fit p q) (h2 : Fit r s) (h3 : Fit u v) (ha : isS p q = true) (hb : isS r s = true) (hc : isS u v = true)
    (hn : oddV p q r s = n) (hm : oddV r s p q = -n) (bn : -1 ≤ n ∧ n ≤ 1) (e0 : (n == 0) = false) (ep : (p == r) = false) (eq : (q == s) = true) (hk : oddV r s u v = k) (bk : -1 ≤ k ∧ k ≤ 1) (x : Int) (hx : oddV p q u v = x) (hfin : (decide (n < 0) || decide (k < 0) || x == max n k) = true) :
    Calls Tryd.prog 7 #[.agg #[.int .i64 p, .int .i64 q], .agg #[.int .i64 r, .int .i64 s], .agg #[.int .i64 u, .int .i64 v]] w fun e w' => e = .returned (.bool true) ∧ Below w.heap.size w w' := by
  have HG := Lib.hid hG
  have HA := Lib.hid ha
  have HB := Lib.hid hb
  have HC := Lib.hid hc
  have HN := Lib.hid hn
  have E1 := Lib.hid (show cmpS p q r s = n ∧ cmpSE p q r s = 0 by obtain ⟨a, b⟩ := cmpS_yes ha hb; exact ⟨a.trans hn, b⟩)
  have E2 := Lib.hid (show cmpS r s p q = -n ∧ cmpSE r s p q = 0 by obtain ⟨a, b⟩ := cmpS_yes hb ha; exact ⟨a.trans hm, b⟩)
  have E3 := Lib.hid (show cmpS r s u v = k ∧ cmpSE r s u v = 0 by obtain ⟨a, b⟩ := cmpS_yes hb hc; exact ⟨a.trans hk, b⟩)
  have E4 := Lib.hid (show cmpS p q u v = x ∧ cmpSE p q u v = 0 by obtain ⟨a, b⟩ := cmpS_yes ha hc; exact ⟨a.trans hx, b⟩)
  have HFIN := Lib.hid hfin
  clear hG ha hb hc hn hm hk hx hfin
  go_enter Tryd.func7, Tryd.ntmps7
  go_wp2_with fail
  refine (SCmp_any p q r s _ h1 h2).mono ?_
  rintro e w1 ⟨rfl, hb1⟩
  rw [E1.out.1, E1.out.2]
  have c0 := cell_at_below hb1 w.heap.size 0 (.int .i64 p) (by go_simp)
  have c1 := cell_at_below hb1 w.heap.size 1 (.int .i64 q) (by go_simp)
  have c2 := cell_at_below hb1 (w.heap.size + 1) 0 (.int .i64 r) (by go_simp)
  have c3 := cell_at_below hb1 (w.heap.size + 1) 1 (.int .i64 s) (by go_simp)
  have c4 := cell_at_below hb1 (w.heap.size + 1 + 1) 0 (.int .i64 u) (by go_simp)
  have c5 := cell_at_below hb1 (w.heap.size + 1 + 1) 1 (.int .i64 v) (by go_simp)
  have z0_ : w.heap.size < w1.heap.size := Nat.lt_of_lt_of_le (by first | assumption | (simp; done) | (simp; omega)) hb1.size
  have z1_ : w.heap.size + 1 < w1.heap.size := Nat.lt_of_lt_of_le (by first | assumption | (simp; done) | (simp; omega)) hb1.size
  have z2_ : w.heap.size + 1 + 1 < w1.heap.size := Nat.lt_of_lt_of_le (by first | assumption | (simp; done) | (simp; omega)) hb1.size
  have W1 := Lib.hid (bt hb1 ((below_alloc3 w _ _ _)))
  clear hb1
  go_wp2_with fail
  refine (SCmp_any r s p q _ h2 h1).mono ?_
  rintro e w2 ⟨rfl, hb2⟩
  rw [E2.out.1, E2.out.2]
  have c0 := cell_at_below hb2 w.heap.size 0 (.int .i64 p) (by go_simp)
  have c1 := cell_at_below hb2 w.heap.size 1 (.int .i64 q) (by go_simp)
  have c2 := cell_at_below hb2 (w.heap.size + 1) 0 (.int .i64 r) (by go_simp)
  have c3 := cell_at_below hb2 (w.heap.size + 1) 1 (.int .i64 s) (by go_simp)
  have c4 := cell_at_below hb2 (w.heap.size + 1 + 1) 0 (.int .i64 u) (by go_simp)
  have c5 := cell_at_below hb2 (w.heap.size + 1 + 1) 1 (.int .i64 v) (by go_simp)
  have z0_ : w.heap.size < w2.heap.size := Nat.lt_of_lt_of_le (by first | assumption | (simp; done) | (simp; omega)) hb2.size
  have z1_ : w.heap.size + 1 < w2.heap.size := Nat.lt_of_lt_of_le (by first | assumption | (simp; done) | (simp; omega)) hb2.size
  have z2_ : w.heap.size + 1 + 1 < w2.heap.size := Nat.lt_of_lt_of_le (by first | assumption | (simp; done) | (simp; omega)) hb2.size
  have W2 := Lib.hid (bt hb2 (W1.out))
  clear hb2
  go_wp2_with fail
  refine (RSIs_any p q _ h1).mono ?_
  rintro e w3 ⟨rfl, hb3⟩
  rw [HA.out]
  have c0 := cell_at_below hb3 w.heap.size 0 (.int .i64 p) (by go_simp)
  have c1 := cell_at_below hb3 w.heap.size 1 (.int .i64 q) (by go_simp)
  have c2 := cell_at_below hb3 (w.heap.size + 1) 0 (.int .i64 r) (by go_simp)
  have c3 := cell_at_below hb3 (w.heap.size + 1) 1 (.int .i64 s) (by go_simp)
  have c4 := cell_at_below hb3 (w.heap.size + 1 + 1) 0 (.int .i64 u) (by go_simp)
  have c5 := cell_at_below hb3 (w.heap.size + 1 + 1) 1 (.int .i64 v) (by go_simp)
  have z0_ : w.heap.size < w3.heap.size := Nat.lt_of_lt_of_le (by first | assumption | (simp; done) | (simp; omega)) hb3.size
  have z1_ : w.heap.size + 1 < w3.heap.size := Nat.lt_of_lt_of_le (by first | assumption | (simp; done) | (simp; omega)) hb3.size
  have z2_ : w.heap.size + 1 + 1 < w3.heap.size := Nat.lt_of_lt_of_le (by first | assumption | (simp; done) | (simp; omega)) hb3.size
  have W3 := Lib.hid (bt hb3 (W2.out))
  clear hb3
  go_wp2_with fail
  refine (RSIs_any r s _ h2).mono ?_
  rintro e w4 ⟨rfl, hb4⟩
  rw [HB.out]
  have c0 := cell_at_below hb4 w.heap.size 0 (.int .i64 p) (by go_simp)
  have c1 := cell_at_below hb4 w.heap.size 1 (.int .i64 q) (by go_simp)
  have c2 := cell_at_below hb4 (w.heap.size + 1) 0 (.int .i64 r) (by go_simp)
  have c3 := cell_at_below hb4 (w.heap.size + 1) 1 (.int .i64 s) (by go_simp)
  have c4 := cell_at_below hb4 (w.heap.size + 1 + 1) 0 (.int .i64 u) (by go_simp)
  have c5 := cell_at_below hb4 (w.heap.size + 1 + 1) 1 (.int .i64 v) (by go_simp)
  have z0_ : w.heap.size < w4.heap.size := Nat.lt_of_lt_of_le (by first | assumption | (simp; done) | (simp; omega)) hb4.size
  have z1_ : w.heap.size + 1 < w4.heap.size := Nat.lt_of_lt_of_le (by first | assumption | (simp; done) | (simp; omega)) hb4.size
  have z2_ : w.heap.size + 1 + 1 < w4.heap.size := Nat.lt_of_lt_of_le (by first | assumption | (simp; done) | (simp; omega)) hb4.size
  have W4 := Lib.hid (bt hb4 (W3.out))
  clear hb4
  go_wp2_with fail
  refine (Odder_any p q r s _ HA.out HB.out).mono ?_
  rintro e w5 ⟨rfl, hb5⟩
  rw [HN.out]
  have c0 := cell_at_below hb5 w.heap.size 0 (.int .i64 p) (by go_simp)
  have c1 := cell_at_below hb5 w.heap.size 1 (.int .i64 q) (by go_simp)
  have c2 := cell_at_below hb5 (w.heap.size + 1) 0 (.int .i64 r) (by go_simp)
  have c3 := cell_at_below hb5 (w.heap.size + 1) 1 (.int .i64 s) (by go_simp)
  have c4 := cell_at_below hb5 (w.heap.size + 1 + 1) 0 (.int .i64 u) (by go_simp)
  have c5 := cell_at_below hb5 (w.heap.size + 1 + 1) 1 (.int .i64 v) (by go_simp)
  have z0_ : w.heap.size < w5.heap.size := Nat.lt_of_lt_of_le (by first | assumption | (simp; done) | (simp; omega)) hb5.size
  have z1_ : w.heap.size + 1 < w5.heap.size := Nat.lt_of_lt_of_le (by first | assumption | (simp; done) | (simp; omega)) hb5.size
  have z2_ : w.heap.size + 1 + 1 < w5.heap.size := Nat.lt_of_lt_of_le (by first | assumption | (simp; done) | (simp; omega)) hb5.size
  have W5 := Lib.hid (bt hb5 (W4.out))
  clear hb5
  go_wp2_with fail
  refine (lives13_any _ (HG.out.below (W5.out))).mono ?_
  rintro e w6 ⟨rfl, hb6⟩
  have c0 := cell_at_below hb6 w.heap.size 0 (.int .i64 p) (by go_simp)
  have c1 := cell_at_below hb6 w.heap.size 1 (.int .i64 q) (by go_simp)
  have c2 := cell_at_below hb6 (w.heap.size + 1) 0 (.int .i64 r) (by go_simp)
  have c3 := cell_at_below hb6 (w.heap.size + 1) 1 (.int .i64 s) (by go_simp)
  have c4 := cell_at_below hb6 (w.heap.size + 1 + 1) 0 (.int .i64 u) (by go_simp)
  have c5 := cell_at_below hb6 (w.heap.size + 1 + 1) 1 (.int .i64 v) (by go_simp)
  have z0_ : w.heap.size < w6.heap.size := Nat.lt_of_lt_of_le (by first | assumption | (simp; done) | (simp; omega)) hb6.size
  have z1_ : w.heap.size + 1 < w6.heap.size := Nat.lt_of_lt_of_le (by first | assumption | (simp; done) | (simp; omega)) hb6.size
  have z2_ : w.heap.size + 1 + 1 < w6.heap.size := Nat.lt_of_lt_of_le (by first | assumption | (simp; done) | (simp; omega)) hb6.size
  have W6 := Lib.hid (bt hb6 (W5.out))
  clear hb6
  go_wp2_with fail
  refine (SCmp_any r s u v _ h2 h3).mono ?_
  rintro e w7 ⟨rfl, hb7⟩
  rw [E3.out.1, E3.out.2]
  have c0 := cell_at_below hb7 w.heap.size 0 (.int .i64 p) (by go_simp)
  have c1 := cell_at_below hb7 w.heap.size 1 (.int .i64 q) (by go_simp)
  have c2 := cell_at_below hb7 (w.heap.size + 1) 0 (.int .i64 r) (by go_simp)
  have c3 := cell_at_below hb7 (w.heap.size + 1) 1 (.int .i64 s) (by go_simp)
  have c4 := cell_at_below hb7 (w.heap.size + 1 + 1) 0 (.int .i64 u) (by go_simp)
  have c5 := cell_at_below hb7 (w.heap.size + 1 + 1) 1 (.int .i64 v) (by go_simp)
  have z0_ : w.heap.size < w7.heap.size := Nat.lt_of_lt_of_le (by first | assumption | (simp; done) | (simp; omega)) hb7.size
  have z1_ : w.heap.size + 1 < w7.heap.size := Nat.lt_of_lt_of_le (by first | assumption | (simp; done) | (simp; omega)) hb7.size
  have z2_ : w.heap.size + 1 + 1 < w7.heap.size := Nat.lt_of_lt_of_le (by first | assumption | (simp; done) | (simp; omega)) hb7.size
  have W7 := Lib.hid (bt hb7 (W6.out))
  clear hb7
  go_wp2_with fail
  refine (SCmp_any p q u v _ h1 h3).mono ?_
  rintro e w8 ⟨rfl, hb8⟩
  rw [E4.out.1, E4.out.2]
  have c0 := cell_at_below hb8 w.heap.size 0 (.int .i64 p) (by go_simp)
  have c1 := cell_at_below hb8 w.heap.size 1 (.int .i64 q) (by go_simp)
  have c2 := cell_at_below hb8 (w.heap.size + 1) 0 (.int .i64 r) (by go_simp)
  have c3 := cell_at_below hb8 (w.heap.size + 1) 1 (.int .i64 s) (by go_simp)
  have c4 := cell_at_below hb8 (w.heap.size + 1 + 1) 0 (.int .i64 u) (by go_simp)
  have c5 := cell_at_below hb8 (w.heap.size + 1 + 1) 1 (.int .i64 v) (by go_simp)
  have z0_ : w.heap.size < w8.heap.size := Nat.lt_of_lt_of_le (by first | assumption | (simp; done) | (simp; omega)) hb8.size
  have z1_ : w.heap.size + 1 < w8.heap.size := Nat.lt_of_lt_of_le (by first | assumption | (simp; done) | (simp; omega)) hb8.size
  have z2_ : w.heap.size + 1 + 1 < w8.heap.size := Nat.lt_of_lt_of_le (by first | assumption | (simp; done) | (simp; omega)) hb8.size
  have W8 := Lib.hid (bt hb8 (W7.out))
  clear hb8
  have h9 := HFIN.out
  clear bn bk
  go_wp2
  all_goals
    go_ret
    exact ⟨ret_bool (by first | rfl | (simp; done) | (simp_all; done) | (simp at *; omega)), W8.out⟩
set_option maxHeartbeats 2000000 in
set_option maxRecDepth 100000 in
theorem orders_c_3 (p q r s u v n k : Int) (w : World) (hG : G w) (h1 : Fit p q) (h2 : Fit r s) (h3 : Fit u v) (ha : isS p q = true) (hb : isS r s = true) (hc : isS u v = false)
    (hn : oddV p q r s = n) (hm : oddV r s p q = -n) (bn : -1 ≤ n ∧ n ≤ 1) (e0 : (n == 0) = false) (ep : (p == r) = true) (eq : (q == s) = false) :
    Calls Tryd.prog 7 #[.agg #[.int .i64 p, .int .i64 q], .agg #[.int .i64 r, .int .i64 s], .agg #[.int .i64 u, .int .i64 v]] w fun e w' => e = .returned (.bool true) ∧ Below w.heap.size w w' := by
  have HG := Lib.hid hG
  have HA := Lib.hid ha
  have HB := Lib.hid hb
  have HC := Lib.hid hc
  have HN := Lib.hid hn
  have E1 := Lib.hid (show cmpS p q r s = n ∧ cmpSE p q r s = 0 by obtain ⟨a, b⟩ := cmpS_yes ha hb; exact ⟨a.trans hn, b⟩)
  have E2 := Lib.hid (show cmpS r s p q = -n ∧ cmpSE r s p q = 0 by obtain ⟨a, b⟩ := cmpS_yes hb ha; exact ⟨a.trans hm, b⟩)
  have E3 := Lib.hid (cmpS_no (show bothS r s u v = false by unfold bothS; rw [hb, hc]; rfl))
  have E4 := Lib.hid (cmpS_no (show bothS p q u v = false by unfold bothS; rw [ha, hc]; rfl))
  clear hG ha hb hc hn hm
  go_enter Tryd.func7, Tryd.ntmps7
  go_wp2_with fail
  refine (SCmp_any p q r s _ h1 h2).mono ?_
  rintro e w1 ⟨rfl, hb1⟩
  rw [E1.out.1, E1.out.2]
  have c0 := cell_at_below hb1 w.heap.size 0 (.int .i64 p) (by go_simp)
  have c1 := cell_at_below hb1 w.heap.size 1 (.int .i64 q) (by go_simp)
  have c2 := cell_at_below hb1 (w.heap.size + 1) 0 (.int .i64 r) (by go_simp)
  have c3 := cell_at_below hb1 (w.heap.size + 1) 1 (.int .i64 s) (by go_simp)
  have c4 := cell_at_below hb1 (w.heap.size + 1 + 1) 0 (.int .i64 u) (by go_simp)
  have c5 := cell_at_below hb1 (w.heap.size + 1 + 1) 1 (.int .i64 v) (by go_simp)
  have z0_ : w.heap.size < w1.heap.size := Nat.lt_of_lt_of_le (by first | assumption | (simp; done) | (simp; omega)) hb1.size
  have z1_ : w.heap.size + 1 < w1.heap.size := Nat.lt_of_lt_of_le (by first | assumption | (simp; done) | (simp; omega)) hb1.size
  have z2_ : w.heap.size + 1 + 1 < w1.heap.size := Nat.lt_of_lt_of_le (by first | assumption | (simp; done) | (simp; omega)) hb1.size
  have W1 := Lib.hid (bt hb1 ((below_alloc3 w _ _ _)))
  clear hb1
  go_wp2_with fail
  refine (SCmp_any r s p q _ h2 h1).mono ?_
  rintro e w2 ⟨rfl, hb2⟩
  rw [E2.out.1, E2.out.2]
  have c0 := cell_at_below hb2 w.heap.size 0 (.int .i64 p) (by go_simp)
  have c1 := cell_at_below hb2 w.heap.size 1 (.int .i64 q) (by go_simp)
  have c2 := cell_at_below hb2 (w.heap.size + 1) 0 (.int .i64 r) (by go_simp)
  have c3 := cell_at_below hb2 (w.heap.size + 1) 1 (.int .i64 s) (by go_simp)
  have c4 := cell_at_below hb2 (w.heap.size + 1 + 1) 0 (.int .i64 u) (by go_simp)
  have c5 := cell_at_below hb2 (w.heap.size + 1 + 1) 1 (.int .i64 v) (by go_simp)
  have z0_ : w.heap.size < w2.heap.size := Nat.lt_of_lt_of_le (by first | assumption | (simp; done) | (simp; omega)) hb2.size
  have z1_ : w.heap.size + 1 < w2.heap.size := Nat.lt_of_lt_of_le (by first | assumption | (simp; done) | (simp; omega)) hb2.size
  have z2_ : w.heap.size + 1 + 1 < w2.heap.size := Nat.lt_of_lt_of_le (by first | assumption | (simp; done) | (simp; omega)) hb2.size
  have W2 := Lib.hid (bt hb2 (W1.out))
  clear hb2
  go_wp2_with fail
  refine (RSIs_any p q _ h1).mono ?_
  rintro e w3 ⟨rfl, hb3⟩
  rw [HA.out]
  have c0 := cell_at_below hb3 w.heap.size 0 (.int .i64 p) (by go_simp)
  have c1 := cell_at_below hb3 w.heap.size 1 (.int .i64 q) (by go_simp)
  have c2 := cell_at_below hb3 (w.heap.size + 1) 0 (.int .i64 r) (by go_simp)
  have c3 := cell_at_below hb3 (w.heap.size + 1) 1 (.int .i64 s) (by go_simp)
  have c4 := cell_at_below hb3 (w.heap.size + 1 + 1) 0 (.int .i64 u) (by go_simp)
  have c5 := cell_at_below hb3 (w.heap.size + 1 + 1) 1 (.int .i64 v) (by go_simp)
  have z0_ : w.heap.size < w3.heap.size := Nat.lt_of_lt_of_le (by first | assumption | (simp; done) | (simp; omega)) hb3.size
  have z1_ : w.heap.size + 1 < w3.heap.size := Nat.lt_of_lt_of_le (by first | assumption | (simp; done) | (simp; omega)) hb3.size
  have z2_ : w.heap.size + 1 + 1 < w3.heap.size := Nat.lt_of_lt_of_le (by first | assumption | (simp; done) | (simp; omega)) hb3.size
  have W3 := Lib.hid (bt hb3 (W2.out))
  clear hb3
  go_wp2_with fail
  refine (RSIs_any r s _ h2).mono ?_
  rintro e w4 ⟨rfl, hb4⟩
  rw [HB.out]
  have c0 := cell_at_below hb4 w.heap.size 0 (.int .i64 p) (by go_simp)
  have c1 := cell_at_below hb4 w.heap.size 1 (.int .i64 q) (by go_simp)
  have c2 := cell_at_below hb4 (w.heap.size + 1) 0 (.int .i64 r) (by go_simp)
  have c3 := cell_at_below hb4 (w.heap.size + 1) 1 (.int .i64 s) (by go_simp)
  have c4 := cell_at_below hb4 (w.heap.size + 1 + 1) 0 (.int .i64 u) (by go_simp)
  have c5 := cell_at_below hb4 (w.heap.size + 1 + 1) 1 (.int .i64 v) (by go_simp)
  have z0_ : w.heap.size < w4.heap.size := Nat.lt_of_lt_of_le (by first | assumption | (simp; done) | (simp; omega)) hb4.size
  have z1_ : w.heap.size + 1 < w4.heap.size := Nat.lt_of_lt_of_le (by first | assumption | (simp; done) | (simp; omega)) hb4.size
  have z2_ : w.heap.size + 1 + 1 < w4.heap.size := Nat.lt_of_lt_of_le (by first | assumption | (simp; done) | (simp; omega)) hb4.size
  have W4 := Lib.hid (bt hb4 (W3.out))
  clear hb4
  go_wp2_with fail
  refine (Odder_any p q r s _ HA.out HB.out).mono ?_
  rintro e w5 ⟨rfl, hb5⟩
  rw [HN.out]
  have c0 := cell_at_below hb5 w.heap.size 0 (.int .i64 p) (by go_simp)
  have c1 := cell_at_below hb5 w.heap.size 1 (.int .i64 q) (by go_simp)
  have c2 := cell_at_below hb5 (w.heap.size + 1) 0 (.int .i64 r) (by go_simp)
  have c3 := cell_at_below hb5 (w.heap.size + 1) 1 (.int .i64 s) (by go_simp)
  have c4 := cell_at_below hb5 (w.heap.size + 1 + 1) 0 (.int .i64 u) (by go_simp)
  have c5 := cell_at_below hb5 (w.heap.size + 1 + 1) 1 (.int .i64 v) (by go_simp)
  have z0_ : w.heap.size < w5.heap.size := Nat.lt_of_lt_of_le (by first | assumption | (simp; done) | (simp; omega)) hb5.size
  have z1_ : w.heap.size + 1 < w5.heap.size := Nat.lt_of_lt_of_le (by first | assumption | (simp; done) | (simp; omega)) hb5.size
  have z2_ : w.heap.size + 1 + 1 < w5.heap.size := Nat.lt_of_lt_of_le (by first | assumption | (simp; done) | (simp; omega)) hb5.size
  have W5 := Lib.hid (bt hb5 (W4.out))
  clear hb5
  go_wp2_with fail
  refine (lives13_any _ (HG.out.below (W5.out))).mono ?_
  rintro e w6 ⟨rfl, hb6⟩
  have c0 := cell_at_below hb6 w.heap.size 0 (.int .i64 p) (by go_simp)
  have c1 := cell_at_below hb6 w.heap.size 1 (.int .i64 q) (by go_simp)
  have c2 := cell_at_below hb6 (w.heap.size + 1) 0 (.int .i64 r) (by go_simp)
  have c3 := cell_at_below hb6 (w.heap.size + 1) 1 (.int .i64 s) (by go_simp)
  have c4 := cell_at_below hb6 (w.heap.size + 1 + 1) 0 (.int .i64 u) (by go_simp)
  have c5 := cell_at_below hb6 (w.heap.size + 1 + 1) 1 (.int .i64 v) (by go_simp)
  have z0_ : w.heap.size < w6.heap.size := Nat.lt_of_lt_of_le (by first | assumption | (simp; done) | (simp; omega)) hb6.size
  have z1_ : w.heap.size + 1 < w6.heap.size := Nat.lt_of_lt_of_le (by first | assumption | (simp; done) | (simp; omega)) hb6.size
  have z2_ : w.heap.size + 1 + 1 < w6.heap.size := Nat.lt_of_lt_of_le (by first | assumption | (simp; done) | (simp; omega)) hb6.size
  have W6 := Lib.hid (bt hb6 (W5.out))
  clear hb6
  go_wp2_with fail
  refine (SCmp_any r s u v _ h2 h3).mono ?_
  rintro e w7 ⟨rfl, hb7⟩
  rw [E3.out.1, E3.out.2]
  have c0 := cell_at_below hb7 w.heap.size 0 (.int .i64 p) (by go_simp)
  have c1 := cell_at_below hb7 w.heap.size 1 (.int .i64 q) (by go_simp)
  have c2 := cell_at_below hb7 (w.heap.size + 1) 0 (.int .i64 r) (by go_simp)
  have c3 := cell_at_below hb7 (w.heap.size + 1) 1 (.int .i64 s) (by go_simp)
  have c4 := cell_at_below hb7 (w.heap.size + 1 + 1) 0 (.int .i64 u) (by go_simp)
  have c5 := cell_at_below hb7 (w.heap.size + 1 + 1) 1 (.int .i64 v) (by go_simp)
  have z0_ : w.heap.size < w7.heap.size := Nat.lt_of_lt_of_le (by first | assumption | (simp; done) | (simp; omega)) hb7.size
  have z1_ : w.heap.size + 1 < w7.heap.size := Nat.lt_of_lt_of_le (by first | assumption | (simp; done) | (simp; omega)) hb7.size
  have z2_ : w.heap.size + 1 + 1 < w7.heap.size := Nat.lt_of_lt_of_le (by first | assumption | (simp; done) | (simp; omega)) hb7.size
  have W7 := Lib.hid (bt hb7 (W6.out))
  clear hb7
  go_wp2_with fail
  refine (SCmp_any p q u v _ h1 h3).mono ?_
  rintro e w8 ⟨rfl, hb8⟩
  rw [E4.out.1, E4.out.2]
  have c0 := cell_at_below hb8 w.heap.size 0 (.int .i64 p) (by go_simp)
  have c1 := cell_at_below hb8 w.heap.size 1 (.int .i64 q) (by go_simp)
  have c2 := cell_at_below hb8 (w.heap.size + 1) 0 (.int .i64 r) (by go_simp)
  have c3 := cell_at_below hb8 (w.heap.size + 1) 1 (.int .i64 s) (by go_simp)
  have c4 := cell_at_below hb8 (w.heap.size + 1 + 1) 0 (.int .i64 u) (by go_simp)
  have c5 := cell_at_below hb8 (w.heap.size + 1 + 1) 1 (.int .i64 v) (by go_simp)
  have z0_ : w.heap.size < w8.heap.size := Nat.lt_of_lt_of_le (by first | assumption | (simp; done) | (simp; omega)) hb8.size
  have z1_ : w.heap.size + 1 < w8.heap.size := Nat.lt_of_lt_of_le (by first | assumption | (simp; done) | (simp; omega)) hb8.size
  have z2_ : w.heap.size + 1 + 1 < w8.heap.size := Nat.lt_of_lt_of_le (by first | assumption | (simp; done) | (simp; omega)) hb8.size
  have W8 := Lib.hid (bt hb8 (W7.out))
  clear hb8
  go_wp2_with fail
  refine (RSIs_any u v _ h3).mono ?_
  rintro e w9 ⟨rfl, hb9⟩
  rw [HC.out]
  have c0 := cell_at_below hb9 w.heap.size 0 (.int .i64 p) (by go_simp)
  have c1 := cell_at_below hb9 w.heap.size 1 (.int .i64 q) (by go_simp)
  have c2 := cell_at_below hb9 (w.heap.size + 1) 0 (.int .i64 r) (by go_simp)
  have c3 := cell_at_below hb9 (w.heap.size + 1) 1 (.int .i64 s) (by go_simp)
  have c4 := cell_at_below hb9 (w.heap.size + 1 + 1) 0 (.int .i64 u) (by go_simp)
  have c5 := cell_at_below hb9 (w.heap.size + 1 + 1) 1 (.int .i64 v) (by go_simp)
  have z0_ : w.heap.size < w9.heap.size := Nat.lt_of_lt_of_le (by first | assumption | (simp; done) | (simp; omega)) hb9.size
  have z1_ : w.heap.size + 1 < w9.heap.size := Nat.lt_of_lt_of_le (by first | assumption | (simp; done) | (simp; omega)) hb9.size
  have z2_ : w.heap.size + 1 + 1 < w9.heap.size := Nat.lt_of_lt_of_le (by first | assumption | (simp; done) | (simp; omega)) hb9.size
  have W9 := Lib.hid (bt hb9 (W8.out))
  clear hb9
  go_wp2
  go_ret
  exact ⟨rfl, W9.out⟩
set_option maxHeartbeats 2000000 in
set_option maxRecDepth 100000 in
theorem orders_x_3 (p q r s u v n k : Int) (w : World) (hG : G w) (h1 : Fit p q) (h2 : Fit r s) (h3 : Fit u v) (ha : isS p q = true) (hb : isS r s = true) (hc : isS u v = true)
    (hn : oddV p q r s = n) (hm : oddV r s p q = -n) (bn : -1 ≤ n ∧ n ≤ 1) (e0 : (n == 0) = false) (ep : (p == r) = true) (eq : (q == s) = false) (hk : oddV r s u v = k) (bk : -1 ≤ k ∧ k ≤ 1) (x : Int) (hx : oddV p q u v = x) (hfin : (decide (n < 0) || decide (k < 0) || x == max n k) = true) :
    Calls Tryd.prog 7 #[.agg #[.int .i64 p, .int .i64 q], .agg #[.int .i64 r, .int .i64 s], .agg #[.int .i64 u, .int .i64 v]] w fun e w' => e = .returned (.bool true) ∧ Below w.heap.size w w' := by
  have HG := Lib.hid hG
  have HA := Lib.hid ha
  have HB := Lib.hid hb
  have HC := Lib.hid hc
  have HN := Lib.hid hn
  have E1 := Lib.hid (show cmpS p q r s = n ∧ cmpSE p q r s = 0 by obtain ⟨a, b⟩ := cmpS_yes ha hb; exact ⟨a.trans hn, b⟩)
  have E2 := Lib.hid (show cmpS r s p q = -n ∧ cmpSE r s p q = 0 by obtain ⟨a, b⟩ := cmpS_yes hb ha; exact ⟨a.trans hm, b⟩)
  have E3 := Lib.hid (show cmpS r s u v = k ∧ cmpSE r s u v = 0 by obtain ⟨a, b⟩ := cmpS_yes hb hc; exact ⟨a.trans hk, b⟩)
  have E4 := Lib.hid (show cmpS p q u v = x ∧ cmpSE p q u v = 0 by obtain ⟨a, b⟩ := cmpS_yes ha hc; exact ⟨a.trans hx, b⟩)
  have HFIN := Lib.hid hfin
  clear hG ha hb hc hn hm hk hx hfin
  go_enter Tryd.func7, Tryd.ntmps7
  go_wp2_with fail
  refine (SCmp_any p q r s _ h1 h2).mono ?_
  rintro e w1 ⟨rfl, hb1⟩
  rw [E1.out.1, E1.out.2]
  have c0 := cell_at_below hb1 w.heap.size 0 (.int .i64 p) (by go_simp)
  have c1 := cell_at_below hb1 w.heap.size 1 (.int .i64 q) (by go_simp)
  have c2 := cell_at_below hb1 (w.heap.size + 1) 0 (.int .i64 r) (by go_simp)
  have c3 := cell_at_below hb1 (w.heap.size + 1) 1 (.int .i64 s) (by go_simp)
  have c4 := cell_at_below hb1 (w.heap.size + 1 + 1) 0 (.int .i64 u) (by go_simp)
  have c5 := cell_at_below hb1 (w.heap.size + 1 + 1) 1 (.int .i64 v) (by go_simp)
  have z0_ : w.heap.size < w1.heap.size := Nat.lt_of_lt_of_le (by first | assumption | (simp; done) | (simp; omega)) hb1.size
  have z1_ : w.heap.size + 1 < w1.heap.size := Nat.lt_of_lt_of_le (by first | assumption | (simp; done) | (simp; omega)) hb1.size
  have z2_ : w.heap.size + 1 + 1 < w1.heap.size := Nat.lt_of_lt_of_le (by first | assumption | (simp; done) | (simp; omega)) hb1.size
  have W1 := Lib.hid (bt hb1 ((below_alloc3 w _ _ _)))
  clear hb1
  go_wp2_with fail
  refine (SCmp_any r s p q _ h2 h1).mono ?_
  rintro e w2 ⟨rfl, hb2⟩
  rw [E2.out.1, E2.out.2]
  have c0 := cell_at_below hb2 w.heap.size 0 (.int .i64 p) (by go_simp)
  have c1 := cell_at_below hb2 w.heap.size 1 (.int .i64 q) (by go_simp)
  have c2 := cell_at_below hb2 (w.heap.size + 1) 0 (.int .i64 r) (by go_simp)
  have c3 := cell_at_below hb2 (w.heap.size + 1) 1 (.int .i64 s) (by go_simp)
  have c4 := cell_at_below hb2 (w.heap.size + 1 + 1) 0 (.int .i64 u) (by go_simp)
  have c5 := cell_at_below hb2 (w.heap.size + 1 + 1) 1 (.int .i64 v) (by go_simp)
  have z0_ : w.heap.size < w2.heap.size := Nat.lt_of_lt_of_le (by first | assumption | (simp; done) | (simp; omega)) hb2.size
  have z1_ : w.heap.size + 1 < w2.heap.size := Nat.lt_of_lt_of_le (by first | assumption | (simp; done) | (simp; omega)) hb2.size
  have z2_ : w.heap.size + 1 + 1 < w2.heap.size := Nat.lt_of_lt_of_le (by first | assumption | (simp; done) | (simp; omega)) hb2.size
  have W2 := Lib.hid (bt hb2 (W1.out))
  clear hb2
  go_wp2_with fail
  refine (RSIs_any p q _ h1).mono ?_
  rintro e w3 ⟨rfl, hb3⟩
  rw [HA.out]
  have c0 := cell_at_below hb3 w.heap.size 0 (.int .i64 p) (by go_simp)
  have c1 := cell_at_below hb3 w.heap.size 1 (.int .i64 q) (by go_simp)
  have c2 := cell_at_below hb3 (w.heap.size + 1) 0 (.int .i64 r) (by go_simp)
  have c3 := cell_at_below hb3 (w.heap.size + 1) 1 (.int .i64 s) (by go_simp)
  have c4 := cell_at_below hb3 (w.heap.size + 1 + 1) 0 (.int .i64 u) (by go_simp)
  have c5 := cell_at_below hb3 (w.heap.size + 1 + 1) 1 (.int .i64 v) (by go_simp)
  have z0_ : w.heap.size < w3.heap.size := Nat.lt_of_lt_of_le (by first | assumption | (simp; done) | (simp; omega)) hb3.size
  have z1_ : w.heap.size + 1 < w3.heap.size := Nat.lt_of_lt_of_le (by first | assumption | (simp; done) | (simp; omega)) hb3.size
  have z2_ : w.heap.size + 1 + 1 < w3.heap.size := Nat.lt_of_lt_of_le (by first | assumption | (simp; done) | (simp; omega)) hb3.size
  have W3 := Lib.hid (bt hb3 (W2.out))
  clear hb3
  go_wp2_with fail
  refine (RSIs_any r s _ h2).mono ?_
  rintro e w4 ⟨rfl, hb4⟩
  rw [HB.out]
  have c0 := cell_at_below hb4 w.heap.size 0 (.int .i64 p) (by go_simp)
  have c1 := cell_at_below hb4 w.heap.size 1 (.int .i64 q) (by go_simp)
  have c2 := cell_at_below hb4 (w.heap.size + 1) 0 (.int .i64 r) (by go_simp)
  have c3 := cell_at_below hb4 (w.heap.size + 1) 1 (.int .i64 s) (by go_simp)
  have c4 := cell_at_below hb4 (w.heap.size + 1 + 1) 0 (.int .i64 u) (by go_simp)
  have c5 := cell_at_below hb4 (w.heap.size + 1 + 1) 1 (.int .i64 v) (by go_simp)
  have z0_ : w.heap.size < w4.heap.size := Nat.lt_of_lt_of_le (by first | assumption | (simp; done) | (simp; omega)) hb4.size
  have z1_ : w.heap.size + 1 < w4.heap.size := Nat.lt_of_lt_of_le (by first | assumption | (simp; done) | (simp; omega)) hb4.size
  have z2_ : w.heap.size + 1 + 1 < w4.heap.size := Nat.lt_of_lt_of_le (by first | assumption | (simp; done) | (simp; omega)) hb4.size
  have W4 := Lib.hid (bt hb4 (W3.out))
  clear hb4
  go_wp2_with fail
  refine (Odder_any p q r s _ HA.out HB.out).mono ?_
  rintro e w5 ⟨rfl, hb5⟩
  rw [HN.out]
  have c0 := cell_at_below hb5 w.heap.size 0 (.int .i64 p) (by go_simp)
  have c1 := cell_at_below hb5 w.heap.size 1 (.int .i64 q) (by go_simp)
  have c2 := cell_at_below hb5 (w.heap.size + 1) 0 (.int .i64 r) (by go_simp)
  have c3 := cell_at_below hb5 (w.heap.size + 1) 1 (.int .i64 s) (by go_simp)
  have c4 := cell_at_below hb5 (w.heap.size + 1 + 1) 0 (.int .i64 u) (by go_simp)
  have c5 := cell_at_below hb5 (w.heap.size + 1 + 1) 1 (.int .i64 v) (by go_simp)
  have z0_ : w.heap.size < w5.heap.size := Nat.lt_of_lt_of_le (by first | assumption | (simp; done) | (simp; omega)) hb5.size
  have z1_ : w.heap.size + 1 < w5.heap.size := Nat.lt_of_lt_of_le (by first | assumption | (simp; done) | (simp; omega)) hb5.size
  have z2_ : w.heap.size + 1 + 1 < w5.heap.size := Nat.lt_of_lt_of_le (by first | assumption | (simp; done) | (simp; omega)) hb5.size
  have W5 := Lib.hid (bt hb5 (W4.out))
  clear hb5
  go_wp2_with fail
  refine (lives13_any _ (HG.out.below (W5.out))).mono ?_
  rintro e w6 ⟨rfl, hb6⟩
  have c0 := cell_at_below hb6 w.heap.size 0 (.int .i64 p) (by go_simp)
  have c1 := cell_at_below hb6 w.heap.size 1 (.int .i64 q) (by go_simp)
  have c2 := cell_at_below hb6 (w.heap.size + 1) 0 (.int .i64 r) (by go_simp)
  have c3 := cell_at_below hb6 (w.heap.size + 1) 1 (.int .i64 s) (by go_simp)
  have c4 := cell_at_below hb6 (w.heap.size + 1 + 1) 0 (.int .i64 u) (by go_simp)
  have c5 := cell_at_below hb6 (w.heap.size + 1 + 1) 1 (.int .i64 v) (by go_simp)
  have z0_ : w.heap.size < w6.heap.size := Nat.lt_of_lt_of_le (by first | assumption | (simp; done) | (simp; omega)) hb6.size
  have z1_ : w.heap.size + 1 < w6.heap.size := Nat.lt_of_lt_of_le (by first | assumption | (simp; done) | (simp; omega)) hb6.size
  have z2_ : w.heap.size + 1 + 1 < w6.heap.size := Nat.lt_of_lt_of_le (by first | assumption | (simp; done) | (simp; omega)) hb6.size
  have W6 := Lib.hid (bt hb6 (W5.out))
  clear hb6
  go_wp2_with fail
  refine (SCmp_any r s u v _ h2 h3).mono ?_
  rintro e w7 ⟨rfl, hb7⟩
  rw [E3.out.1, E3.out.2]
  have c0 := cell_at_below hb7 w.heap.size 0 (.int .i64 p) (by go_simp)
  have c1 := cell_at_below hb7 w.heap.size 1 (.int .i64 q) (by go_simp)
  have c2 := cell_at_below hb7 (w.heap.size + 1) 0 (.int .i64 r) (by go_simp)
  have c3 := cell_at_below hb7 (w.heap.size + 1) 1 (.int .i64 s) (by go_simp)
  have c4 := cell_at_below hb7 (w.heap.size + 1 + 1) 0 (.int .i64 u) (by go_simp)
  have c5 := cell_at_below hb7 (w.heap.size + 1 + 1) 1 (.int .i64 v) (by go_simp)
  have z0_ : w.heap.size < w7.heap.size := Nat.lt_of_lt_of_le (by first | assumption | (simp; done) | (simp; omega)) hb7.size
  have z1_ : w.heap.size + 1 < w7.heap.size := Nat.lt_of_lt_of_le (by first | assumption | (simp; done) | (simp; omega)) hb7.size
  have z2_ : w.heap.size + 1 + 1 < w7.heap.size := Nat.lt_of_lt_of_le (by first | assumption | (simp; done) | (simp; omega)) hb7.size
  have W7 := Lib.hid (bt hb7 (W6.out))
  clear hb7
  go_wp2_with fail
  refine (SCmp_any p q u v _ h1 h3).mono ?_
  rintro e w8 ⟨rfl, hb8⟩
  rw [E4.out.1, E4.out.2]
  have c0 := cell_at_below hb8 w.heap.size 0 (.int .i64 p) (by go_simp)
  have c1 := cell_at_below hb8 w.heap.size 1 (.int .i64 q) (by go_simp)
  have c2 := cell_at_below hb8 (w.heap.size + 1) 0 (.int .i64 r) (by go_simp)
  have c3 := cell_at_below hb8 (w.heap.size + 1) 1 (.int .i64 s) (by go_simp)
  have c4 := cell_at_below hb8 (w.heap.size + 1 + 1) 0 (.int .i64 u) (by go_simp)
  have c5 := cell_at_below hb8 (w.heap.size + 1 + 1) 1 (.int .i64 v) (by go_simp)
  have z0_ : w.heap.size < w8.heap.size := Nat.lt_of_lt_of_le (by first | assumption | (simp; done) | (simp; omega)) hb8.size
  have z1_ : w.heap.size + 1 < w8.heap.size := Nat.lt_of_lt_of_le (by first | assumption | (simp; done) | (simp; omega)) hb8.size
  have z2_ : w.heap.size + 1 + 1 < w8.heap.size := Nat.lt_of_lt_of_le (by first | assumption | (simp; done) | (simp; omega)) hb8.size
  have W8 := Lib.hid (bt hb8 (W7.out))
  clear hb8
  have h9 := HFIN.out
  clear bn bk
  go_wp2
  all_goals
    go_ret
    exact ⟨ret_bool (by first | rfl | (simp; done) | (simp_all; done) | (simp at *; omega)), W8.out⟩
theorem ScoreOrders_any (p q r s u v : Int) (w : World) (hG : G w) (h1 : Fit p q) (h2 : Fit r s) (h3 : Fit u v) :
    Calls Tryd.prog 7 #[.agg #[.int .i64 p, .int .i64 q], .agg #[.int .i64 r, .int .i64 s], .agg #[.int .i64 u, .int .i64 v]] w fun e w' => e = .returned (.bool true) ∧ Below w.heap.size w w' := by
  cases ha : isS p q
  · exact orders_no_n p q r s u v w hG h1 h2 ha
  cases hb : isS r s
  · exact orders_no_y p q r s u v w hG h1 h2 ha hb
  have bn := odd_bd p q r s
  have hm := odd_turn p q r s
  have hz := odd_zero ha hb
  have hf : isS u v = true → (decide (oddV p q r s < 0) || decide (oddV r s u v < 0) || oddV p q u v == max (oddV p q r s) (oddV r s u v)) = true := fun hc => by
    by_cases g1 : oddV p q r s < 0
    · rw [decide_eq_true g1]; rfl
    · by_cases g2 : oddV r s u v < 0
      · rw [decide_eq_true g2]; simp
      · rw [odd_trans ha hb hc g1 g2]; simp
  have bk := odd_bd r s u v
  cases hc : isS u v
  · by_cases e0 : oddV p q r s = 0
    · obtain ⟨e1, e2⟩ := hz.1 e0
      exact orders_c_0 p q r s u v _ 0 w hG h1 h2 h3 ha hb hc rfl hm bn (by simpa using e0) (by simpa using e1) (by simpa using e2)
    · by_cases e1 : p = r
      · have e2 : q ≠ s := fun e2 => e0 (hz.2 ⟨e1, e2⟩)
        exact orders_c_3 p q r s u v _ 0 w hG h1 h2 h3 ha hb hc rfl hm bn (by simpa using e0) (by simpa using e1) (by simpa using e2)
      · by_cases e2 : q = s
        · exact orders_c_2 p q r s u v _ 0 w hG h1 h2 h3 ha hb hc rfl hm bn (by simpa using e0) (by simpa using e1) (by simpa using e2)
        · exact orders_c_1 p q r s u v _ 0 w hG h1 h2 h3 ha hb hc rfl hm bn (by simpa using e0) (by simpa using e1) (by simpa using e2)
  · have hfin := hf hc
    by_cases e0 : oddV p q r s = 0
    · obtain ⟨e1, e2⟩ := hz.1 e0
      exact orders_x_0 p q r s u v _ _ w hG h1 h2 h3 ha hb hc rfl hm bn (by simpa using e0) (by simpa using e1) (by simpa using e2) rfl bk _ rfl hfin
    · by_cases e1 : p = r
      · have e2 : q ≠ s := fun e2 => e0 (hz.2 ⟨e1, e2⟩)
        exact orders_x_3 p q r s u v _ _ w hG h1 h2 h3 ha hb hc rfl hm bn (by simpa using e0) (by simpa using e1) (by simpa using e2) rfl bk _ rfl hfin
      · by_cases e2 : q = s
        · exact orders_x_2 p q r s u v _ _ w hG h1 h2 h3 ha hb hc rfl hm bn (by simpa using e0) (by simpa using e1) (by simpa using e2) rfl bk _ rfl hfin
        · exact orders_x_1 p q r s u v _ _ w hG h1 h2 h3 ha hb hc rfl hm bn (by simpa using e0) (by simpa using e1) (by simpa using e2) rfl bk _ rfl hfin
end Go.Proofs.YtdpmijmofeechaaDoor.ScoOrd
