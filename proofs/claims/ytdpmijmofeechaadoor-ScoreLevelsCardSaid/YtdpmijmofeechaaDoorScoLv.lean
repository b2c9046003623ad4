/- The walk of copselaw13.ScoreLevels; the odder one of two has not the lower level. -/
import Derived.Test.YtdpmijmofeechaaDoorLiv13
namespace Go.Proofs.YtdpmijmofeechaaDoor.ScoLv
set_option linter.unusedVariables false
open Go.RowKit Base BigM BigZ GcdM RatM RatW RefRat Glob WideM WideW Rat2 TextW PartW HarmM ScoW LvlW Liv13

theorem lvl_bd {p q n : Int} (hs : isS p q = true) (h : 2 ≤ n ∧ n ≤ 64) : 0 ≤ lvl p q n ∧ lvl p q n ≤ 1000 := by
  obtain ⟨s1, s2, s3, s4, _⟩ := isS_true hs
  have hc := c_bd (norm_pos h.1 h.2) s1 s2
  unfold lvl
  obtain ⟨C, hC⟩ : ∃ C, norm n * q = C := ⟨_, rfl⟩
  rw [hC] at hc ⊢
  refine ⟨Int.ediv_nonneg (by omega) (by omega), ?_⟩
  have := Int.ediv_le_of_le_mul (a := C * 1000) (b := 1000) (c := C + p) (by omega) (by omega)
  omega
theorem level_bd (p q n : Int) : 0 ≤ levelV p q n ∧ levelV p q n ≤ 1000 := by
  unfold levelV
  split
  · rename_i h; exact lvl_bd h.2 h.1
  · omega
theorem level_ok {p q n : Int} (h : levelE p q n = 0) : (2 ≤ n ∧ n ≤ 64) ∧ isS p q = true ∧ levelV p q n = lvl p q n := by
  unfold levelE at h
  split at h
  · omega
  · rename_i hn
    have hn : 2 ≤ n ∧ n ≤ 64 := by omega
    cases hs : isS p q
    · rw [hs] at h; simp at h
    · exact ⟨hn, rfl, (level_yes hn hs).1⟩
theorem lvl_mono {p q r s n : Int} (h1 : isS p q = true) (h2 : isS r s = true) (h : 2 ≤ n ∧ n ≤ 64) (ho : ¬ oddV p q r s < 0) : lvl r s n ≤ lvl p q n := by
  obtain ⟨q1, q2, p1, p2, _⟩ := isS_true h1
  obtain ⟨s1, s2, r1, r2, _⟩ := isS_true h2
  have hc1 := c_bd (norm_pos h.1 h.2) q1 q2
  have hc2 := c_bd (norm_pos h.1 h.2) s1 s2
  have hps : p * s ≤ r * q := by
    unfold oddV at ho
    rcases ord_cases (r * q) (p * s) with ⟨e, h'⟩ | ⟨e, h'⟩ | ⟨e, h'⟩
    · rw [e] at ho; omega
    · omega
    · omega
  have hb := (lvl_bd h2 h).1
  have hk : lvl r s n * (norm n * s + r) ≤ norm n * s * 1000 := Int.ediv_mul_le _ (by omega)
  obtain ⟨k, hkk⟩ : ∃ k, lvl r s n = k := ⟨_, rfl⟩
  rw [hkk] at hb hk ⊢
  obtain ⟨N, hN⟩ : ∃ N, norm n = N := ⟨_, rfl⟩
  unfold lvl
  rw [hN] at hc1 hc2 hk ⊢
  refine (Int.le_ediv_iff_mul_le (by omega)).2 ?_
  refine Int.le_of_mul_le_mul_right (a := s) ?_ (by omega)
  have e1 : k * (N * q + p) * s = k * (N * q * s) + k * (p * s) := by grind
  have e2 : N * q * 1000 * s = N * s * 1000 * q := by grind
  have e3 : k * (N * s + r) * q = k * (N * q * s) + k * (r * q) := by grind
  have m1 : k * (p * s) ≤ k * (r * q) := Int.mul_le_mul_of_nonneg_left hps hb
  have m2 : k * (N * s + r) * q ≤ N * s * 1000 * q := Int.mul_le_mul_of_nonneg_right hk (by omega)
  omega
set_option maxHeartbeats 2000000 in
set_option maxRecDepth 100000 in
theorem levels_a (p q r s n x e z g : Int) (w : World) (hG : G w) (h1 : Fit p q) (h2 : Fit r s) (hx : levelV p q n = x) (he : levelE p q n = e) (hz : levelV r s n = z) (hg : levelE r s n = g) (bx : 0 ≤ x ∧ x ≤ 1000) (e0 : (e != 0) = true) :
    Calls Tryd.prog 8 #[.agg #[.int .i64 p, .int .i64 q], .agg #[.int .i64 r, .int .i64 s], .int .i64 n] w fun e w' => e = .returned (.bool true) ∧ Below w.heap.size w w' := by
  have HG := Lib.hid hG
  have EX := Lib.hid hx
  have EE := Lib.hid he
  have EZ := Lib.hid hz
  have EG := Lib.hid hg
  obtain ⟨bx0, bx1⟩ := bx
  clear hG hx he hz hg
  go_enter Tryd.func8, Tryd.ntmps8
  go_wp2_with fail
  refine (Level_any p q n _ h1).mono ?_
  rintro e w1 ⟨rfl, hb1⟩
  rw [EX.out, EE.out]
  have c0 := cell_at_below hb1 w.heap.size 0 (.int .i64 p) (by go_simp)
  have c1 := cell_at_below hb1 w.heap.size 1 (.int .i64 q) (by go_simp)
  have c2 := cell_at_below hb1 (w.heap.size + 1) 0 (.int .i64 r) (by go_simp)
  have c3 := cell_at_below hb1 (w.heap.size + 1) 1 (.int .i64 s) (by go_simp)
  have z0_ : w.heap.size < w1.heap.size := Nat.lt_of_lt_of_le (by first | assumption | (simp; done) | (simp; omega)) hb1.size
  have z1_ : w.heap.size + 1 < w1.heap.size := Nat.lt_of_lt_of_le (by first | assumption | (simp; done) | (simp; omega)) hb1.size
  have W1 := Lib.hid (bt hb1 ((below_alloc2 w _ _)))
  clear hb1
  go_wp2_with fail
  refine (RLevel_any p q n _ h1).mono ?_
  rintro e w2 ⟨rfl, hb2⟩
  rw [EX.out, EE.out]
  have c0 := cell_at_below hb2 w.heap.size 0 (.int .i64 p) (by go_simp)
  have c1 := cell_at_below hb2 w.heap.size 1 (.int .i64 q) (by go_simp)
  have c2 := cell_at_below hb2 (w.heap.size + 1) 0 (.int .i64 r) (by go_simp)
  have c3 := cell_at_below hb2 (w.heap.size + 1) 1 (.int .i64 s) (by go_simp)
  have z0_ : w.heap.size < w2.heap.size := Nat.lt_of_lt_of_le (by first | assumption | (simp; done) | (simp; omega)) hb2.size
  have z1_ : w.heap.size + 1 < w2.heap.size := Nat.lt_of_lt_of_le (by first | assumption | (simp; done) | (simp; omega)) hb2.size
  have W2 := Lib.hid (bt hb2 (W1.out))
  clear hb2
  go_wp2_with fail
  refine (Level_any r s n _ h2).mono ?_
  rintro e w3 ⟨rfl, hb3⟩
  rw [EZ.out, EG.out]
  have c0 := cell_at_below hb3 w.heap.size 0 (.int .i64 p) (by go_simp)
  have c1 := cell_at_below hb3 w.heap.size 1 (.int .i64 q) (by go_simp)
  have c2 := cell_at_below hb3 (w.heap.size + 1) 0 (.int .i64 r) (by go_simp)
  have c3 := cell_at_below hb3 (w.heap.size + 1) 1 (.int .i64 s) (by go_simp)
  have z0_ : w.heap.size < w3.heap.size := Nat.lt_of_lt_of_le (by first | assumption | (simp; done) | (simp; omega)) hb3.size
  have z1_ : w.heap.size + 1 < w3.heap.size := Nat.lt_of_lt_of_le (by first | assumption | (simp; done) | (simp; omega)) hb3.size
  have W3 := Lib.hid (bt hb3 (W2.out))
  clear hb3
  go_wp2_with fail
  refine (lives13_any _ (HG.out.below (W3.out))).mono ?_
  rintro e w4 ⟨rfl, hb4⟩
  have c0 := cell_at_below hb4 w.heap.size 0 (.int .i64 p) (by go_simp)
  have c1 := cell_at_below hb4 w.heap.size 1 (.int .i64 q) (by go_simp)
  have c2 := cell_at_below hb4 (w.heap.size + 1) 0 (.int .i64 r) (by go_simp)
  have c3 := cell_at_below hb4 (w.heap.size + 1) 1 (.int .i64 s) (by go_simp)
  have z0_ : w.heap.size < w4.heap.size := Nat.lt_of_lt_of_le (by first | assumption | (simp; done) | (simp; omega)) hb4.size
  have z1_ : w.heap.size + 1 < w4.heap.size := Nat.lt_of_lt_of_le (by first | assumption | (simp; done) | (simp; omega)) hb4.size
  have W4 := Lib.hid (bt hb4 (W3.out))
  clear hb4
  go_wp2
  go_ret
  exact ⟨rfl, W4.out⟩
set_option maxHeartbeats 2000000 in
set_option maxRecDepth 100000 in
theorem levels_b (p q r s n x e z g : Int) (w : World) (hG : G w) (h1 : Fit p q) (h2 : Fit r s) (hx : levelV p q n = x) (he : levelE p q n = e) (hz : levelV r s n = z) (hg : levelE r s n = g) (bx : 0 ≤ x ∧ x ≤ 1000) (e0 : (e != 0) = false) (g0 : (g != 0) = true) :
    Calls Tryd.prog 8 #[.agg #[.int .i64 p, .int .i64 q], .agg #[.int .i64 r, .int .i64 s], .int .i64 n] w fun e w' => e = .returned (.bool true) ∧ Below w.heap.size w w' := by
  have HG := Lib.hid hG
  have EX := Lib.hid hx
  have EE := Lib.hid he
  have EZ := Lib.hid hz
  have EG := Lib.hid hg
  obtain ⟨bx0, bx1⟩ := bx
  clear hG hx he hz hg
  go_enter Tryd.func8, Tryd.ntmps8
  go_wp2_with fail
  refine (Level_any p q n _ h1).mono ?_
  rintro e w1 ⟨rfl, hb1⟩
  rw [EX.out, EE.out]
  have c0 := cell_at_below hb1 w.heap.size 0 (.int .i64 p) (by go_simp)
  have c1 := cell_at_below hb1 w.heap.size 1 (.int .i64 q) (by go_simp)
  have c2 := cell_at_below hb1 (w.heap.size + 1) 0 (.int .i64 r) (by go_simp)
  have c3 := cell_at_below hb1 (w.heap.size + 1) 1 (.int .i64 s) (by go_simp)
  have z0_ : w.heap.size < w1.heap.size := Nat.lt_of_lt_of_le (by first | assumption | (simp; done) | (simp; omega)) hb1.size
  have z1_ : w.heap.size + 1 < w1.heap.size := Nat.lt_of_lt_of_le (by first | assumption | (simp; done) | (simp; omega)) hb1.size
  have W1 := Lib.hid (bt hb1 ((below_alloc2 w _ _)))
  clear hb1
  go_wp2_with fail
  refine (RLevel_any p q n _ h1).mono ?_
  rintro e w2 ⟨rfl, hb2⟩
  rw [EX.out, EE.out]
  have c0 := cell_at_below hb2 w.heap.size 0 (.int .i64 p) (by go_simp)
  have c1 := cell_at_below hb2 w.heap.size 1 (.int .i64 q) (by go_simp)
  have c2 := cell_at_below hb2 (w.heap.size + 1) 0 (.int .i64 r) (by go_simp)
  have c3 := cell_at_below hb2 (w.heap.size + 1) 1 (.int .i64 s) (by go_simp)
  have z0_ : w.heap.size < w2.heap.size := Nat.lt_of_lt_of_le (by first | assumption | (simp; done) | (simp; omega)) hb2.size
  have z1_ : w.heap.size + 1 < w2.heap.size := Nat.lt_of_lt_of_le (by first | assumption | (simp; done) | (simp; omega)) hb2.size
  have W2 := Lib.hid (bt hb2 (W1.out))
  clear hb2
  go_wp2_with fail
  refine (Level_any r s n _ h2).mono ?_
  rintro e w3 ⟨rfl, hb3⟩
  rw [EZ.out, EG.out]
  have c0 := cell_at_below hb3 w.heap.size 0 (.int .i64 p) (by go_simp)
  have c1 := cell_at_below hb3 w.heap.size 1 (.int .i64 q) (by go_simp)
  have c2 := cell_at_below hb3 (w.heap.size + 1) 0 (.int .i64 r) (by go_simp)
  have c3 := cell_at_below hb3 (w.heap.size + 1) 1 (.int .i64 s) (by go_simp)
  have z0_ : w.heap.size < w3.heap.size := Nat.lt_of_lt_of_le (by first | assumption | (simp; done) | (simp; omega)) hb3.size
  have z1_ : w.heap.size + 1 < w3.heap.size := Nat.lt_of_lt_of_le (by first | assumption | (simp; done) | (simp; omega)) hb3.size
  have W3 := Lib.hid (bt hb3 (W2.out))
  clear hb3
  go_wp2_with fail
  refine (lives13_any _ (HG.out.below (W3.out))).mono ?_
  rintro e w4 ⟨rfl, hb4⟩
  have c0 := cell_at_below hb4 w.heap.size 0 (.int .i64 p) (by go_simp)
  have c1 := cell_at_below hb4 w.heap.size 1 (.int .i64 q) (by go_simp)
  have c2 := cell_at_below hb4 (w.heap.size + 1) 0 (.int .i64 r) (by go_simp)
  have c3 := cell_at_below hb4 (w.heap.size + 1) 1 (.int .i64 s) (by go_simp)
  have z0_ : w.heap.size < w4.heap.size := Nat.lt_of_lt_of_le (by first | assumption | (simp; done) | (simp; omega)) hb4.size
  have z1_ : w.heap.size + 1 < w4.heap.size := Nat.lt_of_lt_of_le (by first | assumption | (simp; done) | (simp; omega)) hb4.size
  have W4 := Lib.hid (bt hb4 (W3.out))
  clear hb4
  go_wp2
  go_ret
  exact ⟨rfl, W4.out⟩
set_option maxHeartbeats 2000000 in
set_option maxRecDepth 100000 in
theorem levels_ok (p q r s n x e z g : Int) (w : World) (hG : G w) (h1 : Fit p q) (h2 : Fit r s) (hx : levelV p q n = x) (he : levelE p q n = e) (hz : levelV r s n = z) (hg : levelE r s n = g) (bx : 0 ≤ x ∧ x ≤ 1000) (e0 : (e != 0) = false) (g0 : (g != 0) = false) (ha : isS p q = true) (hb : isS r s = true) (o : Int) (ho : oddV p q r s = o) (hfin : (decide (o < 0) || decide (z ≤ x)) = true) :
    Calls Tryd.prog 8 #[.agg #[.int .i64 p, .int .i64 q], .agg #[.int .i64 r, .int .i64 s], .int .i64 n] w fun e w' => e = .returned (.bool true) ∧ Below w.heap.size w w' := by
  have HG := Lib.hid hG
  have EX := Lib.hid hx
  have EE := Lib.hid he
  have EZ := Lib.hid hz
  have EG := Lib.hid hg
  obtain ⟨bx0, bx1⟩ := bx
  clear hG hx he hz hg
  have HA := Lib.hid ha
  have HB := Lib.hid hb
  have HO := Lib.hid ho
  clear ha hb ho
  by_cases hlt : o < 0
  · clear hfin
    go_enter Tryd.func8, Tryd.ntmps8
    go_wp2_with fail
    refine (Level_any p q n _ h1).mono ?_
    rintro e w1 ⟨rfl, hb1⟩
    rw [EX.out, EE.out]
    have c0 := cell_at_below hb1 w.heap.size 0 (.int .i64 p) (by go_simp)
    have c1 := cell_at_below hb1 w.heap.size 1 (.int .i64 q) (by go_simp)
    have c2 := cell_at_below hb1 (w.heap.size + 1) 0 (.int .i64 r) (by go_simp)
    have c3 := cell_at_below hb1 (w.heap.size + 1) 1 (.int .i64 s) (by go_simp)
    have z0_ : w.heap.size < w1.heap.size := Nat.lt_of_lt_of_le (by first | assumption | (simp; done) | (simp; omega)) hb1.size
    have z1_ : w.heap.size + 1 < w1.heap.size := Nat.lt_of_lt_of_le (by first | assumption | (simp; done) | (simp; omega)) hb1.size
    have W1 := Lib.hid (bt hb1 ((below_alloc2 w _ _)))
    clear hb1
    go_wp2_with fail
    refine (RLevel_any p q n _ h1).mono ?_
    rintro e w2 ⟨rfl, hb2⟩
    rw [EX.out, EE.out]
    have c0 := cell_at_below hb2 w.heap.size 0 (.int .i64 p) (by go_simp)
    have c1 := cell_at_below hb2 w.heap.size 1 (.int .i64 q) (by go_simp)
    have c2 := cell_at_below hb2 (w.heap.size + 1) 0 (.int .i64 r) (by go_simp)
    have c3 := cell_at_below hb2 (w.heap.size + 1) 1 (.int .i64 s) (by go_simp)
    have z0_ : w.heap.size < w2.heap.size := Nat.lt_of_lt_of_le (by first | assumption | (simp; done) | (simp; omega)) hb2.size
    have z1_ : w.heap.size + 1 < w2.heap.size := Nat.lt_of_lt_of_le (by first | assumption | (simp; done) | (simp; omega)) hb2.size
    have W2 := Lib.hid (bt hb2 (W1.out))
    clear hb2
    go_wp2_with fail
    refine (Level_any r s n _ h2).mono ?_
    rintro e w3 ⟨rfl, hb3⟩
    rw [EZ.out, EG.out]
    have c0 := cell_at_below hb3 w.heap.size 0 (.int .i64 p) (by go_simp)
    have c1 := cell_at_below hb3 w.heap.size 1 (.int .i64 q) (by go_simp)
    have c2 := cell_at_below hb3 (w.heap.size + 1) 0 (.int .i64 r) (by go_simp)
    have c3 := cell_at_below hb3 (w.heap.size + 1) 1 (.int .i64 s) (by go_simp)
    have z0_ : w.heap.size < w3.heap.size := Nat.lt_of_lt_of_le (by first | assumption | (simp; done) | (simp; omega)) hb3.size
    have z1_ : w.heap.size + 1 < w3.heap.size := Nat.lt_of_lt_of_le (by first | assumption | (simp; done) | (simp; omega)) hb3.size
    have W3 := Lib.hid (bt hb3 (W2.out))
    clear hb3
    go_wp2_with fail
    refine (Odder_any p q r s _ HA.out HB.out).mono ?_
    rintro e w4 ⟨rfl, hb4⟩
    rw [HO.out]
    have c0 := cell_at_below hb4 w.heap.size 0 (.int .i64 p) (by go_simp)
    have c1 := cell_at_below hb4 w.heap.size 1 (.int .i64 q) (by go_simp)
    have c2 := cell_at_below hb4 (w.heap.size + 1) 0 (.int .i64 r) (by go_simp)
    have c3 := cell_at_below hb4 (w.heap.size + 1) 1 (.int .i64 s) (by go_simp)
    have z0_ : w.heap.size < w4.heap.size := Nat.lt_of_lt_of_le (by first | assumption | (simp; done) | (simp; omega)) hb4.size
    have z1_ : w.heap.size + 1 < w4.heap.size := Nat.lt_of_lt_of_le (by first | assumption | (simp; done) | (simp; omega)) hb4.size
    have W4 := Lib.hid (bt hb4 (W3.out))
    clear hb4
    go_wp2_with fail
    refine (lives13_any _ (HG.out.below (W4.out))).mono ?_
    rintro e w5 ⟨rfl, hb5⟩
    have c0 := cell_at_below hb5 w.heap.size 0 (.int .i64 p) (by go_simp)
    have c1 := cell_at_below hb5 w.heap.size 1 (.int .i64 q) (by go_simp)
    have c2 := cell_at_below hb5 (w.heap.size + 1) 0 (.int .i64 r) (by go_simp)
    have c3 := cell_at_below hb5 (w.heap.size + 1) 1 (.int .i64 s) (by go_simp)
    have z0_ : w.heap.size < w5.heap.size := Nat.lt_of_lt_of_le (by first | assumption | (simp; done) | (simp; omega)) hb5.size
    have z1_ : w.heap.size + 1 < w5.heap.size := Nat.lt_of_lt_of_le (by first | assumption | (simp; done) | (simp; omega)) hb5.size
    have W5 := Lib.hid (bt hb5 (W4.out))
    clear hb5
    go_wp2
    go_ret
    exact ⟨rfl, W5.out⟩
  · have hle : z ≤ x := by simpa [hlt] using hfin
    clear hfin
    go_enter Tryd.func8, Tryd.ntmps8
    go_wp2_with fail
    refine (Level_any p q n _ h1).mono ?_
    rintro e w1 ⟨rfl, hb1⟩
    rw [EX.out, EE.out]
    have c0 := cell_at_below hb1 w.heap.size 0 (.int .i64 p) (by go_simp)
    have c1 := cell_at_below hb1 w.heap.size 1 (.int .i64 q) (by go_simp)
    have c2 := cell_at_below hb1 (w.heap.size + 1) 0 (.int .i64 r) (by go_simp)
    have c3 := cell_at_below hb1 (w.heap.size + 1) 1 (.int .i64 s) (by go_simp)
    have z0_ : w.heap.size < w1.heap.size := Nat.lt_of_lt_of_le (by first | assumption | (simp; done) | (simp; omega)) hb1.size
    have z1_ : w.heap.size + 1 < w1.heap.size := Nat.lt_of_lt_of_le (by first | assumption | (simp; done) | (simp; omega)) hb1.size
    have W1 := Lib.hid (bt hb1 ((below_alloc2 w _ _)))
    clear hb1
    go_wp2_with fail
    refine (RLevel_any p q n _ h1).mono ?_
    rintro e w2 ⟨rfl, hb2⟩
    rw [EX.out, EE.out]
    have c0 := cell_at_below hb2 w.heap.size 0 (.int .i64 p) (by go_simp)
    have c1 := cell_at_below hb2 w.heap.size 1 (.int .i64 q) (by go_simp)
    have c2 := cell_at_below hb2 (w.heap.size + 1) 0 (.int .i64 r) (by go_simp)
    have c3 := cell_at_below hb2 (w.heap.size + 1) 1 (.int .i64 s) (by go_simp)
    have z0_ : w.heap.size < w2.heap.size := Nat.lt_of_lt_of_le (by first | assumption | (simp; done) | (simp; omega)) hb2.size
    have z1_ : w.heap.size + 1 < w2.heap.size := Nat.lt_of_lt_of_le (by first | assumption | (simp; done) | (simp; omega)) hb2.size
    have W2 := Lib.hid (bt hb2 (W1.out))
    clear hb2
    go_wp2_with fail
    refine (Level_any r s n _ h2).mono ?_
    rintro e w3 ⟨rfl, hb3⟩
    rw [EZ.out, EG.out]
    have c0 := cell_at_below hb3 w.heap.size 0 (.int .i64 p) (by go_simp)
    have c1 := cell_at_below hb3 w.heap.size 1 (.int .i64 q) (by go_simp)
    have c2 := cell_at_below hb3 (w.heap.size + 1) 0 (.int .i64 r) (by go_simp)
    have c3 := cell_at_below hb3 (w.heap.size + 1) 1 (.int .i64 s) (by go_simp)
    have z0_ : w.heap.size < w3.heap.size := Nat.lt_of_lt_of_le (by first | assumption | (simp; done) | (simp; omega)) hb3.size
    have z1_ : w.heap.size + 1 < w3.heap.size := Nat.lt_of_lt_of_le (by first | assumption | (simp; done) | (simp; omega)) hb3.size
    have W3 := Lib.hid (bt hb3 (W2.out))
    clear hb3
    go_wp2_with fail
    refine (Odder_any p q r s _ HA.out HB.out).mono ?_
    rintro e w4 ⟨rfl, hb4⟩
    rw [HO.out]
    have c0 := cell_at_below hb4 w.heap.size 0 (.int .i64 p) (by go_simp)
    have c1 := cell_at_below hb4 w.heap.size 1 (.int .i64 q) (by go_simp)
    have c2 := cell_at_below hb4 (w.heap.size + 1) 0 (.int .i64 r) (by go_simp)
    have c3 := cell_at_below hb4 (w.heap.size + 1) 1 (.int .i64 s) (by go_simp)
    have z0_ : w.heap.size < w4.heap.size := Nat.lt_of_lt_of_le (by first | assumption | (simp; done) | (simp; omega)) hb4.size
    have z1_ : w.heap.size + 1 < w4.heap.size := Nat.lt_of_lt_of_le (by first | assumption | (simp; done) | (simp; omega)) hb4.size
    have W4 := Lib.hid (bt hb4 (W3.out))
    clear hb4
    go_wp2_with fail
    refine (lives13_any _ (HG.out.below (W4.out))).mono ?_
    rintro e w5 ⟨rfl, hb5⟩
    have c0 := cell_at_below hb5 w.heap.size 0 (.int .i64 p) (by go_simp)
    have c1 := cell_at_below hb5 w.heap.size 1 (.int .i64 q) (by go_simp)
    have c2 := cell_at_below hb5 (w.heap.size + 1) 0 (.int .i64 r) (by go_simp)
    have c3 := cell_at_below hb5 (w.heap.size + 1) 1 (.int .i64 s) (by go_simp)
    have z0_ : w.heap.size < w5.heap.size := Nat.lt_of_lt_of_le (by first | assumption | (simp; done) | (simp; omega)) hb5.size
    have z1_ : w.heap.size + 1 < w5.heap.size := Nat.lt_of_lt_of_le (by first | assumption | (simp; done) | (simp; omega)) hb5.size
    have W5 := Lib.hid (bt hb5 (W4.out))
    clear hb5
    go_wp2
    go_ret
    exact ⟨rfl, W5.out⟩
theorem ScoreLevels_any (p q r s n : Int) (w : World) (hG : G w) (h1 : Fit p q) (h2 : Fit r s) :
    Calls Tryd.prog 8 #[.agg #[.int .i64 p, .int .i64 q], .agg #[.int .i64 r, .int .i64 s], .int .i64 n] w fun e w' => e = .returned (.bool true) ∧ Below w.heap.size w w' := by
  have bx := level_bd p q n
  by_cases e0 : levelE p q n = 0
  · by_cases g0 : levelE r s n = 0
    · obtain ⟨k1, k2, k3⟩ := level_ok e0
      obtain ⟨j1, j2, j3⟩ := level_ok g0
      refine levels_ok p q r s n _ _ _ _ w hG h1 h2 rfl rfl rfl rfl bx (by simpa using e0) (by simpa using g0) k2 j2 _ rfl ?_
      by_cases ho : oddV p q r s < 0
      · rw [decide_eq_true ho]; rfl
      · rw [decide_eq_true (show levelV r s n ≤ levelV p q n by rw [k3, j3]; exact lvl_mono k2 j2 k1 ho), Bool.or_true]
    · exact levels_b p q r s n _ _ _ _ w hG h1 h2 rfl rfl rfl rfl bx (by simpa using e0) (by simpa using g0)
  · exact levels_a p q r s n _ _ _ _ w hG h1 h2 rfl rfl rfl rfl bx (by simpa using e0)
end Go.Proofs.YtdpmijmofeechaaDoor.ScoLv
