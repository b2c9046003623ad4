/- The walk of copselaw13.ScoreTexts. -/
import Derived.Test.YtdpmijmofeechaaDoorLiv13
namespace Go.Proofs.YtdpmijmofeechaaDoor.ScoTx
set_option linter.unusedVariables false
open Go.RowKit Base BigM BigZ GcdM RatM RatW RefRat Glob WideM WideW Rat2 TextW PartW TxtM TxtL ScoW ScoT ScoU Liv13

theorem stext_len (p q : Int) (hf : Fit p q) : (textS p q).length ≤ 50 := by
  unfold textS
  have l1 := Lib.itoa_length_le p hf.1.1 hf.1.2
  have l2 := Lib.itoa_length_le q hf.2.1 hf.2.2
  split
  · simp; omega
  · simp
theorem fitS {x y : Int} (h : isS x y = true) : Fit x y := by
  obtain ⟨h1, h2, h3, h4, _⟩ := isS_true h
  exact ⟨⟨by omega, by omega⟩, by omega, by omega⟩
theorem sparse_nil : parseS [] = (0, 0, 20) := parseS_no rfl
theorem parseS_cases (l : List UInt8) : parseS l = (0, 0, 20) ∨ ∃ p q, parseS l = (p, q, 0) ∧ Fit p q ∧ textS p q = l := by
  cases h : okS l
  · exact .inl (parseS_no h)
  · right
    unfold okS at h
    have hk := h
    rw [Bool.and_eq_true, beq_iff_eq] at h
    exact ⟨_, _, parseS_yes (by unfold okS; exact hk), fitS (text_ne h.1 h.2), h.2⟩
set_option maxHeartbeats 1000000 in
theorem stexts_long (p q : Int) (l : List UInt8) (w : World) (hG : G w) (h : 100 < l.length) :
    Calls Tryd.prog 10 #[.agg #[.int .i64 p, .int .i64 q], .string ⟨l.toArray⟩] w fun e w' => e = .returned (.bool true) ∧ Below w.heap.size w w' := by
  have HG := Lib.hid hG
  have hI : (100 : Int) < (l.length : Int) := by omega
  clear hG
  go_enter Tryd.func10, Tryd.ntmps10
  go_wp2_with fail
  refine (lives13_any _ (HG.out.below (below_alloc1 w _))).mono ?_
  rintro e w1 ⟨rfl, hb1⟩
  go_wp2
  go_ret
  exact ⟨rfl, bt hb1 (below_alloc1 w _)⟩
set_option maxHeartbeats 2000000 in
set_option maxRecDepth 100000 in
theorem stexts_y_y (p q b1 b2 : Int) (t l : List UInt8) (w : World) (hG : G w) (h1 : Fit p q) (h : l.length ≤ 100) (ht0 : textS p q = t) (htl : t.length ≤ 50)
    (hi : isS p q = true) (ea : parseS t = (p, q, 0)) (eb : parseS l = (b1, b2, 0)) (hb : Fit b1 b2) (hbt : textS b1 b2 = l) :
    Calls Tryd.prog 10 #[.agg #[.int .i64 p, .int .i64 q], .string ⟨l.toArray⟩] w fun e w' => e = .returned (.bool true) ∧ Below w.heap.size w w' := by
  have HG := Lib.hid hG
  have HI := Lib.hid hi
  have ET := Lib.hid ht0
  have EA := Lib.hid ea
  have EB := Lib.hid eb
  have hI : ¬ (100 : Int) < (l.length : Int) := by omega
  clear hG hi ht0 ea eb
  have EBT := Lib.hid hbt
  clear hbt
  go_enter Tryd.func10, Tryd.ntmps10
  go_wp2_with fail
  refine (SText_any p q _ (HG.out.below ((below_alloc1 w _))) h1).mono ?_
  rintro e w1 ⟨rfl, hb1⟩
  rw [ET.out]
  have c0 := cell_at_below hb1 w.heap.size 0 (.int .i64 p) (by go_simp)
  have c1 := cell_at_below hb1 w.heap.size 1 (.int .i64 q) (by go_simp)
  have z0_ : w.heap.size < w1.heap.size := Nat.lt_of_lt_of_le (by first | assumption | (simp; done) | (simp; omega)) hb1.size
  have W1 := Lib.hid (bt hb1 ((below_alloc1 w _)))
  clear hb1
  go_wp2_with fail
  refine (SParse_any t _ (HG.out.below (W1.out)) (by omega)).mono ?_
  rintro e w2 ⟨rfl, hb2⟩
  rw [EA.out]
  have c0 := cell_at_below hb2 w.heap.size 0 (.int .i64 p) (by go_simp)
  have c1 := cell_at_below hb2 w.heap.size 1 (.int .i64 q) (by go_simp)
  have z0_ : w.heap.size < w2.heap.size := Nat.lt_of_lt_of_le (by first | assumption | (simp; done) | (simp; omega)) hb2.size
  have W2 := Lib.hid (bt hb2 (W1.out))
  clear hb2
  go_wp2_with fail
  refine (SParse_any l _ (HG.out.below (bt (below_alloc1 w2 (.cells #[.int .i64 p, .int .i64 q] 36)) (W2.out))) (by omega)).mono ?_
  rintro e w3 ⟨rfl, hb3⟩
  rw [EB.out]
  have c0 := cell_at_below hb3 w.heap.size 0 (.int .i64 p) (by go_simp)
  have c1 := cell_at_below hb3 w.heap.size 1 (.int .i64 q) (by go_simp)
  have c2 := cell_at_below hb3 w2.heap.size 0 (.int .i64 p) (by go_simp)
  have c3 := cell_at_below hb3 w2.heap.size 1 (.int .i64 q) (by go_simp)
  have z0_ : w.heap.size < w3.heap.size := Nat.lt_of_lt_of_le (by first | assumption | (simp; done) | (simp; omega)) hb3.size
  have z1_ : w2.heap.size < w3.heap.size := Nat.lt_of_lt_of_le (by first | assumption | (simp; done) | (simp; omega)) hb3.size
  have W3 := Lib.hid (bt hb3 (bt (below_alloc1 w2 (.cells #[.int .i64 p, .int .i64 q] 36)) (W2.out)))
  clear hb3
  go_wp2_with fail
  refine (RSParse_any l _ (by omega)).mono ?_
  rintro e w4 ⟨rfl, hb4⟩
  rw [EB.out]
  have c0 := cell_at_below hb4 w.heap.size 0 (.int .i64 p) (by go_simp)
  have c1 := cell_at_below hb4 w.heap.size 1 (.int .i64 q) (by go_simp)
  have c2 := cell_at_below hb4 w2.heap.size 0 (.int .i64 p) (by go_simp)
  have c3 := cell_at_below hb4 w2.heap.size 1 (.int .i64 q) (by go_simp)
  have c4 := cell_at_below hb4 w3.heap.size 0 (.int .i64 b1) (by go_simp)
  have c5 := cell_at_below hb4 w3.heap.size 1 (.int .i64 b2) (by go_simp)
  have z0_ : w.heap.size < w4.heap.size := Nat.lt_of_lt_of_le (by first | assumption | (simp; done) | (simp; omega)) hb4.size
  have z1_ : w2.heap.size < w4.heap.size := Nat.lt_of_lt_of_le (by first | assumption | (simp; done) | (simp; omega)) hb4.size
  have z2_ : w3.heap.size < w4.heap.size := Nat.lt_of_lt_of_le (by first | assumption | (simp; done) | (simp; omega)) hb4.size
  have W4 := Lib.hid (bt hb4 (bt (below_alloc1 w3 (.cells #[.int .i64 b1, .int .i64 b2] 36)) (W3.out)))
  clear hb4
  go_wp2_with fail
  refine (RSText_any p q _ h1).mono ?_
  rintro e w5 ⟨rfl, hb5⟩
  rw [ET.out]
  have c0 := cell_at_below hb5 w.heap.size 0 (.int .i64 p) (by go_simp)
  have c1 := cell_at_below hb5 w.heap.size 1 (.int .i64 q) (by go_simp)
  have c2 := cell_at_below hb5 w2.heap.size 0 (.int .i64 p) (by go_simp)
  have c3 := cell_at_below hb5 w2.heap.size 1 (.int .i64 q) (by go_simp)
  have c4 := cell_at_below hb5 w3.heap.size 0 (.int .i64 b1) (by go_simp)
  have c5 := cell_at_below hb5 w3.heap.size 1 (.int .i64 b2) (by go_simp)
  have c6 := cell_at_below hb5 w4.heap.size 0 (.int .i64 b1) (by go_simp)
  have c7 := cell_at_below hb5 w4.heap.size 1 (.int .i64 b2) (by go_simp)
  have z0_ : w.heap.size < w5.heap.size := Nat.lt_of_lt_of_le (by first | assumption | (simp; done) | (simp; omega)) hb5.size
  have z1_ : w2.heap.size < w5.heap.size := Nat.lt_of_lt_of_le (by first | assumption | (simp; done) | (simp; omega)) hb5.size
  have z2_ : w3.heap.size < w5.heap.size := Nat.lt_of_lt_of_le (by first | assumption | (simp; done) | (simp; omega)) hb5.size
  have z3_ : w4.heap.size < w5.heap.size := Nat.lt_of_lt_of_le (by first | assumption | (simp; done) | (simp; omega)) hb5.size
  have W5 := Lib.hid (bt hb5 (bt (below_alloc1 w4 (.cells #[.int .i64 b1, .int .i64 b2] 36)) (W4.out)))
  clear hb5
  go_wp2_with fail
  refine (SText_any b1 b2 _ (HG.out.below (W5.out)) hb).mono ?_
  rintro e w6 ⟨rfl, hb6⟩
  rw [EBT.out]
  have c0 := cell_at_below hb6 w.heap.size 0 (.int .i64 p) (by go_simp)
  have c1 := cell_at_below hb6 w.heap.size 1 (.int .i64 q) (by go_simp)
  have c2 := cell_at_below hb6 w2.heap.size 0 (.int .i64 p) (by go_simp)
  have c3 := cell_at_below hb6 w2.heap.size 1 (.int .i64 q) (by go_simp)
  have c4 := cell_at_below hb6 w3.heap.size 0 (.int .i64 b1) (by go_simp)
  have c5 := cell_at_below hb6 w3.heap.size 1 (.int .i64 b2) (by go_simp)
  have c6 := cell_at_below hb6 w4.heap.size 0 (.int .i64 b1) (by go_simp)
  have c7 := cell_at_below hb6 w4.heap.size 1 (.int .i64 b2) (by go_simp)
  have z0_ : w.heap.size < w6.heap.size := Nat.lt_of_lt_of_le (by first | assumption | (simp; done) | (simp; omega)) hb6.size
  have z1_ : w2.heap.size < w6.heap.size := Nat.lt_of_lt_of_le (by first | assumption | (simp; done) | (simp; omega)) hb6.size
  have z2_ : w3.heap.size < w6.heap.size := Nat.lt_of_lt_of_le (by first | assumption | (simp; done) | (simp; omega)) hb6.size
  have z3_ : w4.heap.size < w6.heap.size := Nat.lt_of_lt_of_le (by first | assumption | (simp; done) | (simp; omega)) hb6.size
  have W6 := Lib.hid (bt hb6 (W5.out))
  clear hb6
  go_wp2_with fail
  refine (RSIs_any p q _ h1).mono ?_
  rintro e w7 ⟨rfl, hb7⟩
  rw [HI.out]
  have c0 := cell_at_below hb7 w.heap.size 0 (.int .i64 p) (by go_simp)
  have c1 := cell_at_below hb7 w.heap.size 1 (.int .i64 q) (by go_simp)
  have c2 := cell_at_below hb7 w2.heap.size 0 (.int .i64 p) (by go_simp)
  have c3 := cell_at_below hb7 w2.heap.size 1 (.int .i64 q) (by go_simp)
  have c4 := cell_at_below hb7 w3.heap.size 0 (.int .i64 b1) (by go_simp)
  have c5 := cell_at_below hb7 w3.heap.size 1 (.int .i64 b2) (by go_simp)
  have c6 := cell_at_below hb7 w4.heap.size 0 (.int .i64 b1) (by go_simp)
  have c7 := cell_at_below hb7 w4.heap.size 1 (.int .i64 b2) (by go_simp)
  have z0_ : w.heap.size < w7.heap.size := Nat.lt_of_lt_of_le (by first | assumption | (simp; done) | (simp; omega)) hb7.size
  have z1_ : w2.heap.size < w7.heap.size := Nat.lt_of_lt_of_le (by first | assumption | (simp; done) | (simp; omega)) hb7.size
  have z2_ : w3.heap.size < w7.heap.size := Nat.lt_of_lt_of_le (by first | assumption | (simp; done) | (simp; omega)) hb7.size
  have z3_ : w4.heap.size < w7.heap.size := Nat.lt_of_lt_of_le (by first | assumption | (simp; done) | (simp; omega)) hb7.size
  have W7 := Lib.hid (bt hb7 (W6.out))
  clear hb7
  go_wp2_with fail
  refine (lives13_any _ (HG.out.below (W7.out))).mono ?_
  rintro e w8 ⟨rfl, hb8⟩
  have c0 := cell_at_below hb8 w.heap.size 0 (.int .i64 p) (by go_simp)
  have c1 := cell_at_below hb8 w.heap.size 1 (.int .i64 q) (by go_simp)
  have c2 := cell_at_below hb8 w2.heap.size 0 (.int .i64 p) (by go_simp)
  have c3 := cell_at_below hb8 w2.heap.size 1 (.int .i64 q) (by go_simp)
  have c4 := cell_at_below hb8 w3.heap.size 0 (.int .i64 b1) (by go_simp)
  have c5 := cell_at_below hb8 w3.heap.size 1 (.int .i64 b2) (by go_simp)
  have c6 := cell_at_below hb8 w4.heap.size 0 (.int .i64 b1) (by go_simp)
  have c7 := cell_at_below hb8 w4.heap.size 1 (.int .i64 b2) (by go_simp)
  have z0_ : w.heap.size < w8.heap.size := Nat.lt_of_lt_of_le (by first | assumption | (simp; done) | (simp; omega)) hb8.size
  have z1_ : w2.heap.size < w8.heap.size := Nat.lt_of_lt_of_le (by first | assumption | (simp; done) | (simp; omega)) hb8.size
  have z2_ : w3.heap.size < w8.heap.size := Nat.lt_of_lt_of_le (by first | assumption | (simp; done) | (simp; omega)) hb8.size
  have z3_ : w4.heap.size < w8.heap.size := Nat.lt_of_lt_of_le (by first | assumption | (simp; done) | (simp; omega)) hb8.size
  have W8 := Lib.hid (bt hb8 (W7.out))
  clear hb8
  go_wp2
  go_ret
  exact ⟨rfl, W8.out⟩
set_option maxHeartbeats 2000000 in
set_option maxRecDepth 100000 in
theorem stexts_y_n (p q b1 b2 : Int) (t l : List UInt8) (w : World) (hG : G w) (h1 : Fit p q) (h : l.length ≤ 100) (ht0 : textS p q = t) (htl : t.length ≤ 50)
    (hi : isS p q = true) (ea : parseS t = (p, q, 0)) (eb : parseS l = (0, 0, 20)) :
    Calls Tryd.prog 10 #[.agg #[.int .i64 p, .int .i64 q], .string ⟨l.toArray⟩] w fun e w' => e = .returned (.bool true) ∧ Below w.heap.size w w' := by
  have HG := Lib.hid hG
  have HI := Lib.hid hi
  have ET := Lib.hid ht0
  have EA := Lib.hid ea
  have EB := Lib.hid eb
  have hI : ¬ (100 : Int) < (l.length : Int) := by omega
  clear hG hi ht0 ea eb
  go_enter Tryd.func10, Tryd.ntmps10
  go_wp2_with fail
  refine (SText_any p q _ (HG.out.below ((below_alloc1 w _))) h1).mono ?_
  rintro e w1 ⟨rfl, hb1⟩
  rw [ET.out]
  have c0 := cell_at_below hb1 w.heap.size 0 (.int .i64 p) (by go_simp)
  have c1 := cell_at_below hb1 w.heap.size 1 (.int .i64 q) (by go_simp)
  have z0_ : w.heap.size < w1.heap.size := Nat.lt_of_lt_of_le (by first | assumption | (simp; done) | (simp; omega)) hb1.size
  have W1 := Lib.hid (bt hb1 ((below_alloc1 w _)))
  clear hb1
  go_wp2_with fail
  refine (SParse_any t _ (HG.out.below (W1.out)) (by omega)).mono ?_
  rintro e w2 ⟨rfl, hb2⟩
  rw [EA.out]
  have c0 := cell_at_below hb2 w.heap.size 0 (.int .i64 p) (by go_simp)
  have c1 := cell_at_below hb2 w.heap.size 1 (.int .i64 q) (by go_simp)
  have z0_ : w.heap.size < w2.heap.size := Nat.lt_of_lt_of_le (by first | assumption | (simp; done) | (simp; omega)) hb2.size
  have W2 := Lib.hid (bt hb2 (W1.out))
  clear hb2
  go_wp2_with fail
  refine (SParse_any l _ (HG.out.below (bt (below_alloc1 w2 (.cells #[.int .i64 p, .int .i64 q] 36)) (W2.out))) (by omega)).mono ?_
  rintro e w3 ⟨rfl, hb3⟩
  rw [EB.out]
  have c0 := cell_at_below hb3 w.heap.size 0 (.int .i64 p) (by go_simp)
  have c1 := cell_at_below hb3 w.heap.size 1 (.int .i64 q) (by go_simp)
  have c2 := cell_at_below hb3 w2.heap.size 0 (.int .i64 p) (by go_simp)
  have c3 := cell_at_below hb3 w2.heap.size 1 (.int .i64 q) (by go_simp)
  have z0_ : w.heap.size < w3.heap.size := Nat.lt_of_lt_of_le (by first | assumption | (simp; done) | (simp; omega)) hb3.size
  have z1_ : w2.heap.size < w3.heap.size := Nat.lt_of_lt_of_le (by first | assumption | (simp; done) | (simp; omega)) hb3.size
  have W3 := Lib.hid (bt hb3 (bt (below_alloc1 w2 (.cells #[.int .i64 p, .int .i64 q] 36)) (W2.out)))
  clear hb3
  go_wp2_with fail
  refine (RSParse_any l _ (by omega)).mono ?_
  rintro e w4 ⟨rfl, hb4⟩
  rw [EB.out]
  have c0 := cell_at_below hb4 w.heap.size 0 (.int .i64 p) (by go_simp)
  have c1 := cell_at_below hb4 w.heap.size 1 (.int .i64 q) (by go_simp)
  have c2 := cell_at_below hb4 w2.heap.size 0 (.int .i64 p) (by go_simp)
  have c3 := cell_at_below hb4 w2.heap.size 1 (.int .i64 q) (by go_simp)
  have c4 := cell_at_below hb4 w3.heap.size 0 (.int .i64 0) (by go_simp)
  have c5 := cell_at_below hb4 w3.heap.size 1 (.int .i64 0) (by go_simp)
  have z0_ : w.heap.size < w4.heap.size := Nat.lt_of_lt_of_le (by first | assumption | (simp; done) | (simp; omega)) hb4.size
  have z1_ : w2.heap.size < w4.heap.size := Nat.lt_of_lt_of_le (by first | assumption | (simp; done) | (simp; omega)) hb4.size
  have z2_ : w3.heap.size < w4.heap.size := Nat.lt_of_lt_of_le (by first | assumption | (simp; done) | (simp; omega)) hb4.size
  have W4 := Lib.hid (bt hb4 (bt (below_alloc1 w3 (.cells #[.int .i64 0, .int .i64 0] 36)) (W3.out)))
  clear hb4
  go_wp2_with fail
  refine (RSText_any p q _ h1).mono ?_
  rintro e w5 ⟨rfl, hb5⟩
  rw [ET.out]
  have c0 := cell_at_below hb5 w.heap.size 0 (.int .i64 p) (by go_simp)
  have c1 := cell_at_below hb5 w.heap.size 1 (.int .i64 q) (by go_simp)
  have c2 := cell_at_below hb5 w2.heap.size 0 (.int .i64 p) (by go_simp)
  have c3 := cell_at_below hb5 w2.heap.size 1 (.int .i64 q) (by go_simp)
  have c4 := cell_at_below hb5 w3.heap.size 0 (.int .i64 0) (by go_simp)
  have c5 := cell_at_below hb5 w3.heap.size 1 (.int .i64 0) (by go_simp)
  have c6 := cell_at_below hb5 w4.heap.size 0 (.int .i64 0) (by go_simp)
  have c7 := cell_at_below hb5 w4.heap.size 1 (.int .i64 0) (by go_simp)
  have z0_ : w.heap.size < w5.heap.size := Nat.lt_of_lt_of_le (by first | assumption | (simp; done) | (simp; omega)) hb5.size
  have z1_ : w2.heap.size < w5.heap.size := Nat.lt_of_lt_of_le (by first | assumption | (simp; done) | (simp; omega)) hb5.size
  have z2_ : w3.heap.size < w5.heap.size := Nat.lt_of_lt_of_le (by first | assumption | (simp; done) | (simp; omega)) hb5.size
  have z3_ : w4.heap.size < w5.heap.size := Nat.lt_of_lt_of_le (by first | assumption | (simp; done) | (simp; omega)) hb5.size
  have W5 := Lib.hid (bt hb5 (bt (below_alloc1 w4 (.cells #[.int .i64 0, .int .i64 0] 36)) (W4.out)))
  clear hb5
  go_wp2_with fail
  refine (RSIs_any p q _ h1).mono ?_
  rintro e w6 ⟨rfl, hb6⟩
  rw [HI.out]
  have c0 := cell_at_below hb6 w.heap.size 0 (.int .i64 p) (by go_simp)
  have c1 := cell_at_below hb6 w.heap.size 1 (.int .i64 q) (by go_simp)
  have c2 := cell_at_below hb6 w2.heap.size 0 (.int .i64 p) (by go_simp)
  have c3 := cell_at_below hb6 w2.heap.size 1 (.int .i64 q) (by go_simp)
  have c4 := cell_at_below hb6 w3.heap.size 0 (.int .i64 0) (by go_simp)
  have c5 := cell_at_below hb6 w3.heap.size 1 (.int .i64 0) (by go_simp)
  have c6 := cell_at_below hb6 w4.heap.size 0 (.int .i64 0) (by go_simp)
  have c7 := cell_at_below hb6 w4.heap.size 1 (.int .i64 0) (by go_simp)
  have z0_ : w.heap.size < w6.heap.size := Nat.lt_of_lt_of_le (by first | assumption | (simp; done) | (simp; omega)) hb6.size
  have z1_ : w2.heap.size < w6.heap.size := Nat.lt_of_lt_of_le (by first | assumption | (simp; done) | (simp; omega)) hb6.size
  have z2_ : w3.heap.size < w6.heap.size := Nat.lt_of_lt_of_le (by first | assumption | (simp; done) | (simp; omega)) hb6.size
  have z3_ : w4.heap.size < w6.heap.size := Nat.lt_of_lt_of_le (by first | assumption | (simp; done) | (simp; omega)) hb6.size
  have W6 := Lib.hid (bt hb6 (W5.out))
  clear hb6
  go_wp2_with fail
  refine (lives13_any _ (HG.out.below (W6.out))).mono ?_
  rintro e w7 ⟨rfl, hb7⟩
  have c0 := cell_at_below hb7 w.heap.size 0 (.int .i64 p) (by go_simp)
  have c1 := cell_at_below hb7 w.heap.size 1 (.int .i64 q) (by go_simp)
  have c2 := cell_at_below hb7 w2.heap.size 0 (.int .i64 p) (by go_simp)
  have c3 := cell_at_below hb7 w2.heap.size 1 (.int .i64 q) (by go_simp)
  have c4 := cell_at_below hb7 w3.heap.size 0 (.int .i64 0) (by go_simp)
  have c5 := cell_at_below hb7 w3.heap.size 1 (.int .i64 0) (by go_simp)
  have c6 := cell_at_below hb7 w4.heap.size 0 (.int .i64 0) (by go_simp)
  have c7 := cell_at_below hb7 w4.heap.size 1 (.int .i64 0) (by go_simp)
  have z0_ : w.heap.size < w7.heap.size := Nat.lt_of_lt_of_le (by first | assumption | (simp; done) | (simp; omega)) hb7.size
  have z1_ : w2.heap.size < w7.heap.size := Nat.lt_of_lt_of_le (by first | assumption | (simp; done) | (simp; omega)) hb7.size
  have z2_ : w3.heap.size < w7.heap.size := Nat.lt_of_lt_of_le (by first | assumption | (simp; done) | (simp; omega)) hb7.size
  have z3_ : w4.heap.size < w7.heap.size := Nat.lt_of_lt_of_le (by first | assumption | (simp; done) | (simp; omega)) hb7.size
  have W7 := Lib.hid (bt hb7 (W6.out))
  clear hb7
  go_wp2
  go_ret
  exact ⟨rfl, W7.out⟩
set_option maxHeartbeats 2000000 in
set_option maxRecDepth 100000 in
theorem stexts_n_y (p q b1 b2 : Int) (t l : List UInt8) (w : World) (hG : G w) (h1 : Fit p q) (h : l.length ≤ 100) (ht0 : textS p q = t) (htl : t.length ≤ 50)
    (hi : isS p q = false) (ht : t = []) (ea : parseS t = (0, 0, 20)) (eb : parseS l = (b1, b2, 0)) (hb : Fit b1 b2) (hbt : textS b1 b2 = l) :
    Calls Tryd.prog 10 #[.agg #[.int .i64 p, .int .i64 q], .string ⟨l.toArray⟩] w fun e w' => e = .returned (.bool true) ∧ Below w.heap.size w w' := by
  have HG := Lib.hid hG
  have HI := Lib.hid hi
  have ET := Lib.hid ht0
  have EA := Lib.hid ea
  have EB := Lib.hid eb
  have hI : ¬ (100 : Int) < (l.length : Int) := by omega
  clear hG hi ht0 ea eb
  have EBT := Lib.hid hbt
  clear hbt
  subst ht
  go_enter Tryd.func10, Tryd.ntmps10
  go_wp2_with fail
  refine (SText_any p q _ (HG.out.below ((below_alloc1 w _))) h1).mono ?_
  rintro e w1 ⟨rfl, hb1⟩
  rw [ET.out]
  have c0 := cell_at_below hb1 w.heap.size 0 (.int .i64 p) (by go_simp)
  have c1 := cell_at_below hb1 w.heap.size 1 (.int .i64 q) (by go_simp)
  have z0_ : w.heap.size < w1.heap.size := Nat.lt_of_lt_of_le (by first | assumption | (simp; done) | (simp; omega)) hb1.size
  have W1 := Lib.hid (bt hb1 ((below_alloc1 w _)))
  clear hb1
  go_wp2_with fail
  refine (SParse_any [] _ (HG.out.below (W1.out)) (by simp)).mono ?_
  rintro e w2 ⟨rfl, hb2⟩
  rw [EA.out]
  have c0 := cell_at_below hb2 w.heap.size 0 (.int .i64 p) (by go_simp)
  have c1 := cell_at_below hb2 w.heap.size 1 (.int .i64 q) (by go_simp)
  have z0_ : w.heap.size < w2.heap.size := Nat.lt_of_lt_of_le (by first | assumption | (simp; done) | (simp; omega)) hb2.size
  have W2 := Lib.hid (bt hb2 (W1.out))
  clear hb2
  go_wp2_with fail
  refine (SParse_any l _ (HG.out.below (bt (below_alloc1 w2 (.cells #[.int .i64 0, .int .i64 0] 36)) (W2.out))) (by omega)).mono ?_
  rintro e w3 ⟨rfl, hb3⟩
  rw [EB.out]
  have c0 := cell_at_below hb3 w.heap.size 0 (.int .i64 p) (by go_simp)
  have c1 := cell_at_below hb3 w.heap.size 1 (.int .i64 q) (by go_simp)
  have c2 := cell_at_below hb3 w2.heap.size 0 (.int .i64 0) (by go_simp)
  have c3 := cell_at_below hb3 w2.heap.size 1 (.int .i64 0) (by go_simp)
  have z0_ : w.heap.size < w3.heap.size := Nat.lt_of_lt_of_le (by first | assumption | (simp; done) | (simp; omega)) hb3.size
  have z1_ : w2.heap.size < w3.heap.size := Nat.lt_of_lt_of_le (by first | assumption | (simp; done) | (simp; omega)) hb3.size
  have W3 := Lib.hid (bt hb3 (bt (below_alloc1 w2 (.cells #[.int .i64 0, .int .i64 0] 36)) (W2.out)))
  clear hb3
  go_wp2_with fail
  refine (RSParse_any l _ (by omega)).mono ?_
  rintro e w4 ⟨rfl, hb4⟩
  rw [EB.out]
  have c0 := cell_at_below hb4 w.heap.size 0 (.int .i64 p) (by go_simp)
  have c1 := cell_at_below hb4 w.heap.size 1 (.int .i64 q) (by go_simp)
  have c2 := cell_at_below hb4 w2.heap.size 0 (.int .i64 0) (by go_simp)
  have c3 := cell_at_below hb4 w2.heap.size 1 (.int .i64 0) (by go_simp)
  have c4 := cell_at_below hb4 w3.heap.size 0 (.int .i64 b1) (by go_simp)
  have c5 := cell_at_below hb4 w3.heap.size 1 (.int .i64 b2) (by go_simp)
  have z0_ : w.heap.size < w4.heap.size := Nat.lt_of_lt_of_le (by first | assumption | (simp; done) | (simp; omega)) hb4.size
  have z1_ : w2.heap.size < w4.heap.size := Nat.lt_of_lt_of_le (by first | assumption | (simp; done) | (simp; omega)) hb4.size
  have z2_ : w3.heap.size < w4.heap.size := Nat.lt_of_lt_of_le (by first | assumption | (simp; done) | (simp; omega)) hb4.size
  have W4 := Lib.hid (bt hb4 (bt (below_alloc1 w3 (.cells #[.int .i64 b1, .int .i64 b2] 36)) (W3.out)))
  clear hb4
  go_wp2_with fail
  refine (RSText_any p q _ h1).mono ?_
  rintro e w5 ⟨rfl, hb5⟩
  rw [ET.out]
  have c0 := cell_at_below hb5 w.heap.size 0 (.int .i64 p) (by go_simp)
  have c1 := cell_at_below hb5 w.heap.size 1 (.int .i64 q) (by go_simp)
  have c2 := cell_at_below hb5 w2.heap.size 0 (.int .i64 0) (by go_simp)
  have c3 := cell_at_below hb5 w2.heap.size 1 (.int .i64 0) (by go_simp)
  have c4 := cell_at_below hb5 w3.heap.size 0 (.int .i64 b1) (by go_simp)
  have c5 := cell_at_below hb5 w3.heap.size 1 (.int .i64 b2) (by go_simp)
  have c6 := cell_at_below hb5 w4.heap.size 0 (.int .i64 b1) (by go_simp)
  have c7 := cell_at_below hb5 w4.heap.size 1 (.int .i64 b2) (by go_simp)
  have z0_ : w.heap.size < w5.heap.size := Nat.lt_of_lt_of_le (by first | assumption | (simp; done) | (simp; omega)) hb5.size
  have z1_ : w2.heap.size < w5.heap.size := Nat.lt_of_lt_of_le (by first | assumption | (simp; done) | (simp; omega)) hb5.size
  have z2_ : w3.heap.size < w5.heap.size := Nat.lt_of_lt_of_le (by first | assumption | (simp; done) | (simp; omega)) hb5.size
  have z3_ : w4.heap.size < w5.heap.size := Nat.lt_of_lt_of_le (by first | assumption | (simp; done) | (simp; omega)) hb5.size
  have W5 := Lib.hid (bt hb5 (bt (below_alloc1 w4 (.cells #[.int .i64 b1, .int .i64 b2] 36)) (W4.out)))
  clear hb5
  go_wp2_with fail
  refine (SText_any b1 b2 _ (HG.out.below (W5.out)) hb).mono ?_
  rintro e w6 ⟨rfl, hb6⟩
  rw [EBT.out]
  have c0 := cell_at_below hb6 w.heap.size 0 (.int .i64 p) (by go_simp)
  have c1 := cell_at_below hb6 w.heap.size 1 (.int .i64 q) (by go_simp)
  have c2 := cell_at_below hb6 w2.heap.size 0 (.int .i64 0) (by go_simp)
  have c3 := cell_at_below hb6 w2.heap.size 1 (.int .i64 0) (by go_simp)
  have c4 := cell_at_below hb6 w3.heap.size 0 (.int .i64 b1) (by go_simp)
  have c5 := cell_at_below hb6 w3.heap.size 1 (.int .i64 b2) (by go_simp)
  have c6 := cell_at_below hb6 w4.heap.size 0 (.int .i64 b1) (by go_simp)
  have c7 := cell_at_below hb6 w4.heap.size 1 (.int .i64 b2) (by go_simp)
  have z0_ : w.heap.size < w6.heap.size := Nat.lt_of_lt_of_le (by first | assumption | (simp; done) | (simp; omega)) hb6.size
  have z1_ : w2.heap.size < w6.heap.size := Nat.lt_of_lt_of_le (by first | assumption | (simp; done) | (simp; omega)) hb6.size
  have z2_ : w3.heap.size < w6.heap.size := Nat.lt_of_lt_of_le (by first | assumption | (simp; done) | (simp; omega)) hb6.size
  have z3_ : w4.heap.size < w6.heap.size := Nat.lt_of_lt_of_le (by first | assumption | (simp; done) | (simp; omega)) hb6.size
  have W6 := Lib.hid (bt hb6 (W5.out))
  clear hb6
  go_wp2_with fail
  refine (RSIs_any p q _ h1).mono ?_
  rintro e w7 ⟨rfl, hb7⟩
  rw [HI.out]
  have c0 := cell_at_below hb7 w.heap.size 0 (.int .i64 p) (by go_simp)
  have c1 := cell_at_below hb7 w.heap.size 1 (.int .i64 q) (by go_simp)
  have c2 := cell_at_below hb7 w2.heap.size 0 (.int .i64 0) (by go_simp)
  have c3 := cell_at_below hb7 w2.heap.size 1 (.int .i64 0) (by go_simp)
  have c4 := cell_at_below hb7 w3.heap.size 0 (.int .i64 b1) (by go_simp)
  have c5 := cell_at_below hb7 w3.heap.size 1 (.int .i64 b2) (by go_simp)
  have c6 := cell_at_below hb7 w4.heap.size 0 (.int .i64 b1) (by go_simp)
  have c7 := cell_at_below hb7 w4.heap.size 1 (.int .i64 b2) (by go_simp)
  have z0_ : w.heap.size < w7.heap.size := Nat.lt_of_lt_of_le (by first | assumption | (simp; done) | (simp; omega)) hb7.size
  have z1_ : w2.heap.size < w7.heap.size := Nat.lt_of_lt_of_le (by first | assumption | (simp; done) | (simp; omega)) hb7.size
  have z2_ : w3.heap.size < w7.heap.size := Nat.lt_of_lt_of_le (by first | assumption | (simp; done) | (simp; omega)) hb7.size
  have z3_ : w4.heap.size < w7.heap.size := Nat.lt_of_lt_of_le (by first | assumption | (simp; done) | (simp; omega)) hb7.size
  have W7 := Lib.hid (bt hb7 (W6.out))
  clear hb7
  go_wp2_with fail
  refine (lives13_any _ (HG.out.below (W7.out))).mono ?_
  rintro e w8 ⟨rfl, hb8⟩
  have c0 := cell_at_below hb8 w.heap.size 0 (.int .i64 p) (by go_simp)
  have c1 := cell_at_below hb8 w.heap.size 1 (.int .i64 q) (by go_simp)
  have c2 := cell_at_below hb8 w2.heap.size 0 (.int .i64 0) (by go_simp)
  have c3 := cell_at_below hb8 w2.heap.size 1 (.int .i64 0) (by go_simp)
  have c4 := cell_at_below hb8 w3.heap.size 0 (.int .i64 b1) (by go_simp)
  have c5 := cell_at_below hb8 w3.heap.size 1 (.int .i64 b2) (by go_simp)
  have c6 := cell_at_below hb8 w4.heap.size 0 (.int .i64 b1) (by go_simp)
  have c7 := cell_at_below hb8 w4.heap.size 1 (.int .i64 b2) (by go_simp)
  have z0_ : w.heap.size < w8.heap.size := Nat.lt_of_lt_of_le (by first | assumption | (simp; done) | (simp; omega)) hb8.size
  have z1_ : w2.heap.size < w8.heap.size := Nat.lt_of_lt_of_le (by first | assumption | (simp; done) | (simp; omega)) hb8.size
  have z2_ : w3.heap.size < w8.heap.size := Nat.lt_of_lt_of_le (by first | assumption | (simp; done) | (simp; omega)) hb8.size
  have z3_ : w4.heap.size < w8.heap.size := Nat.lt_of_lt_of_le (by first | assumption | (simp; done) | (simp; omega)) hb8.size
  have W8 := Lib.hid (bt hb8 (W7.out))
  clear hb8
  go_wp2
  go_ret
  exact ⟨rfl, W8.out⟩
set_option maxHeartbeats 2000000 in
set_option maxRecDepth 100000 in
theorem stexts_n_n (p q b1 b2 : Int) (t l : List UInt8) (w : World) (hG : G w) (h1 : Fit p q) (h : l.length ≤ 100) (ht0 : textS p q = t) (htl : t.length ≤ 50)
    (hi : isS p q = false) (ht : t = []) (ea : parseS t = (0, 0, 20)) (eb : parseS l = (0, 0, 20)) :
    Calls Tryd.prog 10 #[.agg #[.int .i64 p, .int .i64 q], .string ⟨l.toArray⟩] w fun e w' => e = .returned (.bool true) ∧ Below w.heap.size w w' := by
  have HG := Lib.hid hG
  have HI := Lib.hid hi
  have ET := Lib.hid ht0
  have EA := Lib.hid ea
  have EB := Lib.hid eb
  have hI : ¬ (100 : Int) < (l.length : Int) := by omega
  clear hG hi ht0 ea eb
  subst ht
  go_enter Tryd.func10, Tryd.ntmps10
  go_wp2_with fail
  refine (SText_any p q _ (HG.out.below ((below_alloc1 w _))) h1).mono ?_
  rintro e w1 ⟨rfl, hb1⟩
  rw [ET.out]
  have c0 := cell_at_below hb1 w.heap.size 0 (.int .i64 p) (by go_simp)
  have c1 := cell_at_below hb1 w.heap.size 1 (.int .i64 q) (by go_simp)
  have z0_ : w.heap.size < w1.heap.size := Nat.lt_of_lt_of_le (by first | assumption | (simp; done) | (simp; omega)) hb1.size
  have W1 := Lib.hid (bt hb1 ((below_alloc1 w _)))
  clear hb1
  go_wp2_with fail
  refine (SParse_any [] _ (HG.out.below (W1.out)) (by simp)).mono ?_
  rintro e w2 ⟨rfl, hb2⟩
  rw [EA.out]
  have c0 := cell_at_below hb2 w.heap.size 0 (.int .i64 p) (by go_simp)
  have c1 := cell_at_below hb2 w.heap.size 1 (.int .i64 q) (by go_simp)
  have z0_ : w.heap.size < w2.heap.size := Nat.lt_of_lt_of_le (by first | assumption | (simp; done) | (simp; omega)) hb2.size
  have W2 := Lib.hid (bt hb2 (W1.out))
  clear hb2
  go_wp2_with fail
  refine (SParse_any l _ (HG.out.below (bt (below_alloc1 w2 (.cells #[.int .i64 0, .int .i64 0] 36)) (W2.out))) (by omega)).mono ?_
  rintro e w3 ⟨rfl, hb3⟩
  rw [EB.out]
  have c0 := cell_at_below hb3 w.heap.size 0 (.int .i64 p) (by go_simp)
  have c1 := cell_at_below hb3 w.heap.size 1 (.int .i64 q) (by go_simp)
  have c2 := cell_at_below hb3 w2.heap.size 0 (.int .i64 0) (by go_simp)
  have c3 := cell_at_below hb3 w2.heap.size 1 (.int .i64 0) (by go_simp)
  have z0_ : w.heap.size < w3.heap.size := Nat.lt_of_lt_of_le (by first | assumption | (simp; done) | (simp; omega)) hb3.size
  have z1_ : w2.heap.size < w3.heap.size := Nat.lt_of_lt_of_le (by first | assumption | (simp; done) | (simp; omega)) hb3.size
  have W3 := Lib.hid (bt hb3 (bt (below_alloc1 w2 (.cells #[.int .i64 0, .int .i64 0] 36)) (W2.out)))
  clear hb3
  go_wp2_with fail
  refine (RSParse_any l _ (by omega)).mono ?_
  rintro e w4 ⟨rfl, hb4⟩
  rw [EB.out]
  have c0 := cell_at_below hb4 w.heap.size 0 (.int .i64 p) (by go_simp)
  have c1 := cell_at_below hb4 w.heap.size 1 (.int .i64 q) (by go_simp)
  have c2 := cell_at_below hb4 w2.heap.size 0 (.int .i64 0) (by go_simp)
  have c3 := cell_at_below hb4 w2.heap.size 1 (.int .i64 0) (by go_simp)
  have c4 := cell_at_below hb4 w3.heap.size 0 (.int .i64 0) (by go_simp)
  have c5 := cell_at_below hb4 w3.heap.size 1 (.int .i64 0) (by go_simp)
  have z0_ : w.heap.size < w4.heap.size := Nat.lt_of_lt_of_le (by first | assumption | (simp; done) | (simp; omega)) hb4.size
  have z1_ : w2.heap.size < w4.heap.size := Nat.lt_of_lt_of_le (by first | assumption | (simp; done) | (simp; omega)) hb4.size
  have z2_ : w3.heap.size < w4.heap.size := Nat.lt_of_lt_of_le (by first | assumption | (simp; done) | (simp; omega)) hb4.size
  have W4 := Lib.hid (bt hb4 (bt (below_alloc1 w3 (.cells #[.int .i64 0, .int .i64 0] 36)) (W3.out)))
  clear hb4
  go_wp2_with fail
  refine (RSText_any p q _ h1).mono ?_
  rintro e w5 ⟨rfl, hb5⟩
  rw [ET.out]
  have c0 := cell_at_below hb5 w.heap.size 0 (.int .i64 p) (by go_simp)
  have c1 := cell_at_below hb5 w.heap.size 1 (.int .i64 q) (by go_simp)
  have c2 := cell_at_below hb5 w2.heap.size 0 (.int .i64 0) (by go_simp)
  have c3 := cell_at_below hb5 w2.heap.size 1 (.int .i64 0) (by go_simp)
  have c4 := cell_at_below hb5 w3.heap.size 0 (.int .i64 0) (by go_simp)
  have c5 := cell_at_below hb5 w3.heap.size 1 (.int .i64 0) (by go_simp)
  have c6 := cell_at_below hb5 w4.heap.size 0 (.int .i64 0) (by go_simp)
  have c7 := cell_at_below hb5 w4.heap.size 1 (.int .i64 0) (by go_simp)
  have z0_ : w.heap.size < w5.heap.size := Nat.lt_of_lt_of_le (by first | assumption | (simp; done) | (simp; omega)) hb5.size
  have z1_ : w2.heap.size < w5.heap.size := Nat.lt_of_lt_of_le (by first | assumption | (simp; done) | (simp; omega)) hb5.size
  have z2_ : w3.heap.size < w5.heap.size := Nat.lt_of_lt_of_le (by first | assumption | (simp; done) | (simp; omega)) hb5.size
  have z3_ : w4.heap.size < w5.heap.size := Nat.lt_of_lt_of_le (by first | assumption | (simp; done) | (simp; omega)) hb5.size
  have W5 := Lib.hid (bt hb5 (bt (below_alloc1 w4 (.cells #[.int .i64 0, .int .i64 0] 36)) (W4.out)))
  clear hb5
  go_wp2_with fail
  refine (RSIs_any p q _ h1).mono ?_
  rintro e w6 ⟨rfl, hb6⟩
  rw [HI.out]
  have c0 := cell_at_below hb6 w.heap.size 0 (.int .i64 p) (by go_simp)
  have c1 := cell_at_below hb6 w.heap.size 1 (.int .i64 q) (by go_simp)
  have c2 := cell_at_below hb6 w2.heap.size 0 (.int .i64 0) (by go_simp)
  have c3 := cell_at_below hb6 w2.heap.size 1 (.int .i64 0) (by go_simp)
  have c4 := cell_at_below hb6 w3.heap.size 0 (.int .i64 0) (by go_simp)
  have c5 := cell_at_below hb6 w3.heap.size 1 (.int .i64 0) (by go_simp)
  have c6 := cell_at_below hb6 w4.heap.size 0 (.int .i64 0) (by go_simp)
  have c7 := cell_at_below hb6 w4.heap.size 1 (.int .i64 0) (by go_simp)
  have z0_ : w.heap.size < w6.heap.size := Nat.lt_of_lt_of_le (by first | assumption | (simp; done) | (simp; omega)) hb6.size
  have z1_ : w2.heap.size < w6.heap.size := Nat.lt_of_lt_of_le (by first | assumption | (simp; done) | (simp; omega)) hb6.size
  have z2_ : w3.heap.size < w6.heap.size := Nat.lt_of_lt_of_le (by first | assumption | (simp; done) | (simp; omega)) hb6.size
  have z3_ : w4.heap.size < w6.heap.size := Nat.lt_of_lt_of_le (by first | assumption | (simp; done) | (simp; omega)) hb6.size
  have W6 := Lib.hid (bt hb6 (W5.out))
  clear hb6
  go_wp2_with fail
  refine (lives13_any _ (HG.out.below (W6.out))).mono ?_
  rintro e w7 ⟨rfl, hb7⟩
  have c0 := cell_at_below hb7 w.heap.size 0 (.int .i64 p) (by go_simp)
  have c1 := cell_at_below hb7 w.heap.size 1 (.int .i64 q) (by go_simp)
  have c2 := cell_at_below hb7 w2.heap.size 0 (.int .i64 0) (by go_simp)
  have c3 := cell_at_below hb7 w2.heap.size 1 (.int .i64 0) (by go_simp)
  have c4 := cell_at_below hb7 w3.heap.size 0 (.int .i64 0) (by go_simp)
  have c5 := cell_at_below hb7 w3.heap.size 1 (.int .i64 0) (by go_simp)
  have c6 := cell_at_below hb7 w4.heap.size 0 (.int .i64 0) (by go_simp)
  have c7 := cell_at_below hb7 w4.heap.size 1 (.int .i64 0) (by go_simp)
  have z0_ : w.heap.size < w7.heap.size := Nat.lt_of_lt_of_le (by first | assumption | (simp; done) | (simp; omega)) hb7.size
  have z1_ : w2.heap.size < w7.heap.size := Nat.lt_of_lt_of_le (by first | assumption | (simp; done) | (simp; omega)) hb7.size
  have z2_ : w3.heap.size < w7.heap.size := Nat.lt_of_lt_of_le (by first | assumption | (simp; done) | (simp; omega)) hb7.size
  have z3_ : w4.heap.size < w7.heap.size := Nat.lt_of_lt_of_le (by first | assumption | (simp; done) | (simp; omega)) hb7.size
  have W7 := Lib.hid (bt hb7 (W6.out))
  clear hb7
  go_wp2
  go_ret
  exact ⟨rfl, W7.out⟩
theorem ScoreTexts_any (p q : Int) (l : List UInt8) (w : World) (hG : G w) (h1 : Fit p q) :
    Calls Tryd.prog 10 #[.agg #[.int .i64 p, .int .i64 q], .string ⟨l.toArray⟩] w fun e w' => e = .returned (.bool true) ∧ Below w.heap.size w w' := by
  by_cases hl : 100 < l.length
  · exact stexts_long p q l w hG hl
  have hl : l.length ≤ 100 := by omega
  have htl := stext_len p q h1
  rcases parseS_cases l with hf | ⟨b1, b2, eb, hb, hbt⟩
  · cases hi : isS p q
    · exact stexts_n_n p q 0 0 _ l w hG h1 hl rfl htl hi (textS_no hi) (by rw [textS_no hi]; exact sparse_nil) hf
    · exact stexts_y_n p q 0 0 _ l w hG h1 hl rfl htl hi (parse_text hi) hf
  · cases hi : isS p q
    · exact stexts_n_y p q b1 b2 _ l w hG h1 hl rfl htl hi (textS_no hi) (by rw [textS_no hi]; exact sparse_nil) eb hb hbt
    · exact stexts_y_y p q b1 b2 _ l w hG h1 hl rfl htl hi (parse_text hi) eb hb hbt
end Go.Proofs.YtdpmijmofeechaaDoor.ScoTx
