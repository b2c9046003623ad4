/- The walk of copselaw03.RatioBack. -/
import Derived.Test.YtdpmijmofeechaaDoorLivesW
import Derived.Test.YtdpmijmofeechaaDoorRatC
namespace Go.Proofs.YtdpmijmofeechaaDoor.RatBk
set_option linter.unusedVariables false
open Go.RowKit Base BigM BigZ GcdM RatM RatW RefRat Glob WideM WideW Rat2 TextW PartW LivesW RefCmp RatC

theorem fitR {x y : Int} (h : isR x y = true) : Fit x y := by
  obtain ⟨h1, h2, h3, h4, _⟩ := isR_true h
  exact ⟨⟨by omega, by omega⟩, by omega, by omega⟩
theorem do_is {k p q r s x y : Int} (h : doR k p q r s = (x, y, 0)) : isR p q = true ∧ isR r s = true := by
  cases hk : (isR p q && isR r s)
  · rw [doR_bad (by rw [hk]; decide)] at h
    simp only [Prod.mk.injEq] at h
    omega
  · rwa [Bool.and_eq_true] at hk
set_option maxHeartbeats 2000000 in
set_option maxRecDepth 100000 in
theorem back_y_zero_y (p q r s u v x y x2 y2 m n  : Int) (w : World) (hG : G w) (h1 : Fit p q) (h2 : Fit r s) (h3 : Fit u v)
    (e1 : addR p q r s = (x, y, 0)) (e2 : doR 2 p q r s = (x2, y2, 0)) (e3 : addR u v r s = (m, n, 0)) (hrb : (r == 0) = true) :
    Calls Tryd.prog 12 #[.agg #[.int .i64 p, .int .i64 q], .agg #[.int .i64 r, .int .i64 s], .agg #[.int .i64 u, .int .i64 v]] w fun e w' => e = .returned (.bool true) ∧ Below w.heap.size w w' := by
  have HG := Lib.hid hG
  clear hG
  have E4 := Lib.hid (add_sub (add_is e1).1 (add_is e1).2.1 e1).2
  have hxy := fitR (add_is e1).2.2.1
  have hmn := fitR (add_is e3).2.2.1
  have hcc := cmp_add e1 e3
  obtain ⟨cc, ecc⟩ : ∃ c, cmpV p q u v = c := ⟨_, rfl⟩
  rw [ecc] at hcc
  have E6 := Lib.hid (⟨ecc, hcc.2⟩ : cmpV p q u v = cc ∧ bothE p q u v = 0 ∧ bothE x y m n = 0)
  have E7 := Lib.hid hcc.1
  clear hcc ecc
  have E1 := Lib.hid e1
  have E2 := Lib.hid e2
  have E3 := Lib.hid e3
  clear e1 e2 e3
  go_enter Tryd.func12, Tryd.ntmps12
  go_wp2_with fail
  refine (Add_any p q r s _ h1 h2).mono ?_
  rintro e w1 ⟨rfl, hb1⟩
  rw [E1.out]
  have a0 := cell_at_below hb1 w.heap.size 0 (.int .i64 p) (by go_simp)
  have a1 := cell_at_below hb1 w.heap.size 1 (.int .i64 q) (by go_simp)
  have b0 := cell_at_below hb1 (w.heap.size + 1) 0 (.int .i64 r) (by go_simp)
  have b1 := cell_at_below hb1 (w.heap.size + 1) 1 (.int .i64 s) (by go_simp)
  have c0 := cell_at_below hb1 (w.heap.size + 1 + 1) 0 (.int .i64 u) (by go_simp)
  have c1 := cell_at_below hb1 (w.heap.size + 1 + 1) 1 (.int .i64 v) (by go_simp)
  have z0 : w.heap.size < w1.heap.size := Nat.lt_of_lt_of_le (by first | assumption | (simp; done) | (simp; omega)) hb1.size
  have z1 : w.heap.size + 1 < w1.heap.size := Nat.lt_of_lt_of_le (by first | assumption | (simp; done) | (simp; omega)) hb1.size
  have z2 : w.heap.size + 1 + 1 < w1.heap.size := Nat.lt_of_lt_of_le (by first | assumption | (simp; done) | (simp; omega)) hb1.size
  have W1 := Lib.hid (bt hb1 ((below_alloc3 w _ _ _)))
  clear hb1
  go_wp2_with fail
  refine (lives_any _ (HG.out.below (bt (below_alloc1 w1 (.cells #[.int .i64 x, .int .i64 y] 23)) W1.out))).mono ?_
  rintro e w2 ⟨rfl, hb2⟩
  have a0 := cell_at_below hb2 w.heap.size 0 (.int .i64 p) (by go_simp)
  have a1 := cell_at_below hb2 w.heap.size 1 (.int .i64 q) (by go_simp)
  have b0 := cell_at_below hb2 (w.heap.size + 1) 0 (.int .i64 r) (by go_simp)
  have b1 := cell_at_below hb2 (w.heap.size + 1) 1 (.int .i64 s) (by go_simp)
  have c0 := cell_at_below hb2 (w.heap.size + 1 + 1) 0 (.int .i64 u) (by go_simp)
  have c1 := cell_at_below hb2 (w.heap.size + 1 + 1) 1 (.int .i64 v) (by go_simp)
  have x0 := cell_at_below hb2 w1.heap.size 0 (.int .i64 x) (by go_simp)
  have x1 := cell_at_below hb2 w1.heap.size 1 (.int .i64 y) (by go_simp)
  have z0 : w.heap.size < w2.heap.size := Nat.lt_of_lt_of_le (by first | assumption | (simp; done) | (simp; omega)) hb2.size
  have z1 : w.heap.size + 1 < w2.heap.size := Nat.lt_of_lt_of_le (by first | assumption | (simp; done) | (simp; omega)) hb2.size
  have z2 : w.heap.size + 1 + 1 < w2.heap.size := Nat.lt_of_lt_of_le (by first | assumption | (simp; done) | (simp; omega)) hb2.size
  have z3 : w1.heap.size < w2.heap.size := Nat.lt_of_lt_of_le (by first | assumption | (simp; done) | (simp; omega)) hb2.size
  have W2 := Lib.hid (bt hb2 (bt (below_alloc1 w1 (.cells #[.int .i64 x, .int .i64 y] 23)) W1.out))
  clear hb2
  go_wp2_with fail
  refine (Sub_any x y r s _ hxy h2).mono ?_
  rintro e w3 ⟨rfl, hb3⟩
  rw [E4.out]
  have a0 := cell_at_below hb3 w.heap.size 0 (.int .i64 p) (by go_simp)
  have a1 := cell_at_below hb3 w.heap.size 1 (.int .i64 q) (by go_simp)
  have b0 := cell_at_below hb3 (w.heap.size + 1) 0 (.int .i64 r) (by go_simp)
  have b1 := cell_at_below hb3 (w.heap.size + 1) 1 (.int .i64 s) (by go_simp)
  have c0 := cell_at_below hb3 (w.heap.size + 1 + 1) 0 (.int .i64 u) (by go_simp)
  have c1 := cell_at_below hb3 (w.heap.size + 1 + 1) 1 (.int .i64 v) (by go_simp)
  have x0 := cell_at_below hb3 w1.heap.size 0 (.int .i64 x) (by go_simp)
  have x1 := cell_at_below hb3 w1.heap.size 1 (.int .i64 y) (by go_simp)
  have z0 : w.heap.size < w3.heap.size := Nat.lt_of_lt_of_le (by first | assumption | (simp; done) | (simp; omega)) hb3.size
  have z1 : w.heap.size + 1 < w3.heap.size := Nat.lt_of_lt_of_le (by first | assumption | (simp; done) | (simp; omega)) hb3.size
  have z2 : w.heap.size + 1 + 1 < w3.heap.size := Nat.lt_of_lt_of_le (by first | assumption | (simp; done) | (simp; omega)) hb3.size
  have z3 : w1.heap.size < w3.heap.size := Nat.lt_of_lt_of_le (by first | assumption | (simp; done) | (simp; omega)) hb3.size
  have W3 := Lib.hid (bt hb3 (W2.out))
  clear hb3
  go_wp2_with fail
  refine (Mul_any p q r s _ h1 h2).mono ?_
  rintro e w4 ⟨rfl, hb4⟩
  rw [E2.out]
  have a0 := cell_at_below hb4 w.heap.size 0 (.int .i64 p) (by go_simp)
  have a1 := cell_at_below hb4 w.heap.size 1 (.int .i64 q) (by go_simp)
  have b0 := cell_at_below hb4 (w.heap.size + 1) 0 (.int .i64 r) (by go_simp)
  have b1 := cell_at_below hb4 (w.heap.size + 1) 1 (.int .i64 s) (by go_simp)
  have c0 := cell_at_below hb4 (w.heap.size + 1 + 1) 0 (.int .i64 u) (by go_simp)
  have c1 := cell_at_below hb4 (w.heap.size + 1 + 1) 1 (.int .i64 v) (by go_simp)
  have x0 := cell_at_below hb4 w1.heap.size 0 (.int .i64 x) (by go_simp)
  have x1 := cell_at_below hb4 w1.heap.size 1 (.int .i64 y) (by go_simp)
  have s0 := cell_at_below hb4 w3.heap.size 0 (.int .i64 p) (by go_simp)
  have s1 := cell_at_below hb4 w3.heap.size 1 (.int .i64 q) (by go_simp)
  have z0 : w.heap.size < w4.heap.size := Nat.lt_of_lt_of_le (by first | assumption | (simp; done) | (simp; omega)) hb4.size
  have z1 : w.heap.size + 1 < w4.heap.size := Nat.lt_of_lt_of_le (by first | assumption | (simp; done) | (simp; omega)) hb4.size
  have z2 : w.heap.size + 1 + 1 < w4.heap.size := Nat.lt_of_lt_of_le (by first | assumption | (simp; done) | (simp; omega)) hb4.size
  have z3 : w1.heap.size < w4.heap.size := Nat.lt_of_lt_of_le (by first | assumption | (simp; done) | (simp; omega)) hb4.size
  have z4 : w3.heap.size < w4.heap.size := Nat.lt_of_lt_of_le (by first | assumption | (simp; done) | (simp; omega)) hb4.size
  have W4 := Lib.hid (bt hb4 (bt (below_alloc1 w3 (.cells #[.int .i64 p, .int .i64 q] 23)) W3.out))
  clear hb4
  go_wp2_with fail
  refine (Add_any u v r s _ h3 h2).mono ?_
  rintro e w5 ⟨rfl, hb5⟩
  rw [E3.out]
  have a0 := cell_at_below hb5 w.heap.size 0 (.int .i64 p) (by go_simp)
  have a1 := cell_at_below hb5 w.heap.size 1 (.int .i64 q) (by go_simp)
  have b0 := cell_at_below hb5 (w.heap.size + 1) 0 (.int .i64 r) (by go_simp)
  have b1 := cell_at_below hb5 (w.heap.size + 1) 1 (.int .i64 s) (by go_simp)
  have c0 := cell_at_below hb5 (w.heap.size + 1 + 1) 0 (.int .i64 u) (by go_simp)
  have c1 := cell_at_below hb5 (w.heap.size + 1 + 1) 1 (.int .i64 v) (by go_simp)
  have x0 := cell_at_below hb5 w1.heap.size 0 (.int .i64 x) (by go_simp)
  have x1 := cell_at_below hb5 w1.heap.size 1 (.int .i64 y) (by go_simp)
  have s0 := cell_at_below hb5 w3.heap.size 0 (.int .i64 p) (by go_simp)
  have s1 := cell_at_below hb5 w3.heap.size 1 (.int .i64 q) (by go_simp)
  have m0 := cell_at_below hb5 w4.heap.size 0 (.int .i64 x2) (by go_simp)
  have m1 := cell_at_below hb5 w4.heap.size 1 (.int .i64 y2) (by go_simp)
  have z0 : w.heap.size < w5.heap.size := Nat.lt_of_lt_of_le (by first | assumption | (simp; done) | (simp; omega)) hb5.size
  have z1 : w.heap.size + 1 < w5.heap.size := Nat.lt_of_lt_of_le (by first | assumption | (simp; done) | (simp; omega)) hb5.size
  have z2 : w.heap.size + 1 + 1 < w5.heap.size := Nat.lt_of_lt_of_le (by first | assumption | (simp; done) | (simp; omega)) hb5.size
  have z3 : w1.heap.size < w5.heap.size := Nat.lt_of_lt_of_le (by first | assumption | (simp; done) | (simp; omega)) hb5.size
  have z4 : w3.heap.size < w5.heap.size := Nat.lt_of_lt_of_le (by first | assumption | (simp; done) | (simp; omega)) hb5.size
  have z5 : w4.heap.size < w5.heap.size := Nat.lt_of_lt_of_le (by first | assumption | (simp; done) | (simp; omega)) hb5.size
  have W5 := Lib.hid (bt hb5 (bt (below_alloc1 w4 (.cells #[.int .i64 x2, .int .i64 y2] 23)) W4.out))
  clear hb5
  go_wp2_with fail
  refine (Cmp_any p q u v _ h1 h3).mono ?_
  rintro e w6 ⟨rfl, hb6⟩
  rw [E6.out.1, E6.out.2.1]
  have a0 := cell_at_below hb6 w.heap.size 0 (.int .i64 p) (by go_simp)
  have a1 := cell_at_below hb6 w.heap.size 1 (.int .i64 q) (by go_simp)
  have b0 := cell_at_below hb6 (w.heap.size + 1) 0 (.int .i64 r) (by go_simp)
  have b1 := cell_at_below hb6 (w.heap.size + 1) 1 (.int .i64 s) (by go_simp)
  have c0 := cell_at_below hb6 (w.heap.size + 1 + 1) 0 (.int .i64 u) (by go_simp)
  have c1 := cell_at_below hb6 (w.heap.size + 1 + 1) 1 (.int .i64 v) (by go_simp)
  have x0 := cell_at_below hb6 w1.heap.size 0 (.int .i64 x) (by go_simp)
  have x1 := cell_at_below hb6 w1.heap.size 1 (.int .i64 y) (by go_simp)
  have s0 := cell_at_below hb6 w3.heap.size 0 (.int .i64 p) (by go_simp)
  have s1 := cell_at_below hb6 w3.heap.size 1 (.int .i64 q) (by go_simp)
  have m0 := cell_at_below hb6 w4.heap.size 0 (.int .i64 x2) (by go_simp)
  have m1 := cell_at_below hb6 w4.heap.size 1 (.int .i64 y2) (by go_simp)
  have t0 := cell_at_below hb6 w5.heap.size 0 (.int .i64 m) (by go_simp)
  have t1 := cell_at_below hb6 w5.heap.size 1 (.int .i64 n) (by go_simp)
  have z0 : w.heap.size < w6.heap.size := Nat.lt_of_lt_of_le (by first | assumption | (simp; done) | (simp; omega)) hb6.size
  have z1 : w.heap.size + 1 < w6.heap.size := Nat.lt_of_lt_of_le (by first | assumption | (simp; done) | (simp; omega)) hb6.size
  have z2 : w.heap.size + 1 + 1 < w6.heap.size := Nat.lt_of_lt_of_le (by first | assumption | (simp; done) | (simp; omega)) hb6.size
  have z3 : w1.heap.size < w6.heap.size := Nat.lt_of_lt_of_le (by first | assumption | (simp; done) | (simp; omega)) hb6.size
  have z4 : w3.heap.size < w6.heap.size := Nat.lt_of_lt_of_le (by first | assumption | (simp; done) | (simp; omega)) hb6.size
  have z5 : w4.heap.size < w6.heap.size := Nat.lt_of_lt_of_le (by first | assumption | (simp; done) | (simp; omega)) hb6.size
  have z6 : w5.heap.size < w6.heap.size := Nat.lt_of_lt_of_le (by first | assumption | (simp; done) | (simp; omega)) hb6.size
  have W6 := Lib.hid (bt hb6 (bt (below_alloc1 w5 (.cells #[.int .i64 m, .int .i64 n] 23)) W5.out))
  clear hb6
  go_wp2_with fail
  refine (Cmp_any x y m n _ hxy hmn).mono ?_
  rintro e w7 ⟨rfl, hb7⟩
  rw [E7.out, E6.out.2.2]
  have a0 := cell_at_below hb7 w.heap.size 0 (.int .i64 p) (by go_simp)
  have a1 := cell_at_below hb7 w.heap.size 1 (.int .i64 q) (by go_simp)
  have b0 := cell_at_below hb7 (w.heap.size + 1) 0 (.int .i64 r) (by go_simp)
  have b1 := cell_at_below hb7 (w.heap.size + 1) 1 (.int .i64 s) (by go_simp)
  have c0 := cell_at_below hb7 (w.heap.size + 1 + 1) 0 (.int .i64 u) (by go_simp)
  have c1 := cell_at_below hb7 (w.heap.size + 1 + 1) 1 (.int .i64 v) (by go_simp)
  have x0 := cell_at_below hb7 w1.heap.size 0 (.int .i64 x) (by go_simp)
  have x1 := cell_at_below hb7 w1.heap.size 1 (.int .i64 y) (by go_simp)
  have s0 := cell_at_below hb7 w3.heap.size 0 (.int .i64 p) (by go_simp)
  have s1 := cell_at_below hb7 w3.heap.size 1 (.int .i64 q) (by go_simp)
  have m0 := cell_at_below hb7 w4.heap.size 0 (.int .i64 x2) (by go_simp)
  have m1 := cell_at_below hb7 w4.heap.size 1 (.int .i64 y2) (by go_simp)
  have t0 := cell_at_below hb7 w5.heap.size 0 (.int .i64 m) (by go_simp)
  have t1 := cell_at_below hb7 w5.heap.size 1 (.int .i64 n) (by go_simp)
  have z0 : w.heap.size < w7.heap.size := Nat.lt_of_lt_of_le (by first | assumption | (simp; done) | (simp; omega)) hb7.size
  have z1 : w.heap.size + 1 < w7.heap.size := Nat.lt_of_lt_of_le (by first | assumption | (simp; done) | (simp; omega)) hb7.size
  have z2 : w.heap.size + 1 + 1 < w7.heap.size := Nat.lt_of_lt_of_le (by first | assumption | (simp; done) | (simp; omega)) hb7.size
  have z3 : w1.heap.size < w7.heap.size := Nat.lt_of_lt_of_le (by first | assumption | (simp; done) | (simp; omega)) hb7.size
  have z4 : w3.heap.size < w7.heap.size := Nat.lt_of_lt_of_le (by first | assumption | (simp; done) | (simp; omega)) hb7.size
  have z5 : w4.heap.size < w7.heap.size := Nat.lt_of_lt_of_le (by first | assumption | (simp; done) | (simp; omega)) hb7.size
  have z6 : w5.heap.size < w7.heap.size := Nat.lt_of_lt_of_le (by first | assumption | (simp; done) | (simp; omega)) hb7.size
  have W7 := Lib.hid (bt hb7 (W6.out))
  clear hb7
  go_wp2
  go_ret
  exact ⟨rfl, W7.out⟩
set_option maxHeartbeats 2000000 in
set_option maxRecDepth 100000 in
theorem back_y_zero_n (p q r s u v x y x2 y2 m n z3 : Int) (w : World) (hG : G w) (h1 : Fit p q) (h2 : Fit r s) (h3 : Fit u v)
    (e1 : addR p q r s = (x, y, 0)) (e2 : doR 2 p q r s = (x2, y2, 0)) (e3 : addR u v r s = (m, n, z3)) (hrb : (r == 0) = true) (hz3b : (z3 == 0) = false) :
    Calls Tryd.prog 12 #[.agg #[.int .i64 p, .int .i64 q], .agg #[.int .i64 r, .int .i64 s], .agg #[.int .i64 u, .int .i64 v]] w fun e w' => e = .returned (.bool true) ∧ Below w.heap.size w w' := by
  have HG := Lib.hid hG
  clear hG
  have hz3c : (z3 != 0) = true := by simp only [bne, hz3b, Bool.not_false]
  have E4 := Lib.hid (add_sub (add_is e1).1 (add_is e1).2.1 e1).2
  have hxy := fitR (add_is e1).2.2.1
  have E1 := Lib.hid e1
  have E2 := Lib.hid e2
  have E3 := Lib.hid e3
  clear e1 e2 e3
  go_enter Tryd.func12, Tryd.ntmps12
  go_wp2_with fail
  refine (Add_any p q r s _ h1 h2).mono ?_
  rintro e w1 ⟨rfl, hb1⟩
  rw [E1.out]
  have a0 := cell_at_below hb1 w.heap.size 0 (.int .i64 p) (by go_simp)
  have a1 := cell_at_below hb1 w.heap.size 1 (.int .i64 q) (by go_simp)
  have b0 := cell_at_below hb1 (w.heap.size + 1) 0 (.int .i64 r) (by go_simp)
  have b1 := cell_at_below hb1 (w.heap.size + 1) 1 (.int .i64 s) (by go_simp)
  have c0 := cell_at_below hb1 (w.heap.size + 1 + 1) 0 (.int .i64 u) (by go_simp)
  have c1 := cell_at_below hb1 (w.heap.size + 1 + 1) 1 (.int .i64 v) (by go_simp)
  have z0 : w.heap.size < w1.heap.size := Nat.lt_of_lt_of_le (by first | assumption | (simp; done) | (simp; omega)) hb1.size
  have z1 : w.heap.size + 1 < w1.heap.size := Nat.lt_of_lt_of_le (by first | assumption | (simp; done) | (simp; omega)) hb1.size
  have z2 : w.heap.size + 1 + 1 < w1.heap.size := Nat.lt_of_lt_of_le (by first | assumption | (simp; done) | (simp; omega)) hb1.size
  have W1 := Lib.hid (bt hb1 ((below_alloc3 w _ _ _)))
  clear hb1
  go_wp2_with fail
  refine (lives_any _ (HG.out.below (bt (below_alloc1 w1 (.cells #[.int .i64 x, .int .i64 y] 23)) W1.out))).mono ?_
  rintro e w2 ⟨rfl, hb2⟩
  have a0 := cell_at_below hb2 w.heap.size 0 (.int .i64 p) (by go_simp)
  have a1 := cell_at_below hb2 w.heap.size 1 (.int .i64 q) (by go_simp)
  have b0 := cell_at_below hb2 (w.heap.size + 1) 0 (.int .i64 r) (by go_simp)
  have b1 := cell_at_below hb2 (w.heap.size + 1) 1 (.int .i64 s) (by go_simp)
  have c0 := cell_at_below hb2 (w.heap.size + 1 + 1) 0 (.int .i64 u) (by go_simp)
  have c1 := cell_at_below hb2 (w.heap.size + 1 + 1) 1 (.int .i64 v) (by go_simp)
  have x0 := cell_at_below hb2 w1.heap.size 0 (.int .i64 x) (by go_simp)
  have x1 := cell_at_below hb2 w1.heap.size 1 (.int .i64 y) (by go_simp)
  have z0 : w.heap.size < w2.heap.size := Nat.lt_of_lt_of_le (by first | assumption | (simp; done) | (simp; omega)) hb2.size
  have z1 : w.heap.size + 1 < w2.heap.size := Nat.lt_of_lt_of_le (by first | assumption | (simp; done) | (simp; omega)) hb2.size
  have z2 : w.heap.size + 1 + 1 < w2.heap.size := Nat.lt_of_lt_of_le (by first | assumption | (simp; done) | (simp; omega)) hb2.size
  have z3 : w1.heap.size < w2.heap.size := Nat.lt_of_lt_of_le (by first | assumption | (simp; done) | (simp; omega)) hb2.size
  have W2 := Lib.hid (bt hb2 (bt (below_alloc1 w1 (.cells #[.int .i64 x, .int .i64 y] 23)) W1.out))
  clear hb2
  go_wp2_with fail
  refine (Sub_any x y r s _ hxy h2).mono ?_
  rintro e w3 ⟨rfl, hb3⟩
  rw [E4.out]
  have a0 := cell_at_below hb3 w.heap.size 0 (.int .i64 p) (by go_simp)
  have a1 := cell_at_below hb3 w.heap.size 1 (.int .i64 q) (by go_simp)
  have b0 := cell_at_below hb3 (w.heap.size + 1) 0 (.int .i64 r) (by go_simp)
  have b1 := cell_at_below hb3 (w.heap.size + 1) 1 (.int .i64 s) (by go_simp)
  have c0 := cell_at_below hb3 (w.heap.size + 1 + 1) 0 (.int .i64 u) (by go_simp)
  have c1 := cell_at_below hb3 (w.heap.size + 1 + 1) 1 (.int .i64 v) (by go_simp)
  have x0 := cell_at_below hb3 w1.heap.size 0 (.int .i64 x) (by go_simp)
  have x1 := cell_at_below hb3 w1.heap.size 1 (.int .i64 y) (by go_simp)
  have z0 : w.heap.size < w3.heap.size := Nat.lt_of_lt_of_le (by first | assumption | (simp; done) | (simp; omega)) hb3.size
  have z1 : w.heap.size + 1 < w3.heap.size := Nat.lt_of_lt_of_le (by first | assumption | (simp; done) | (simp; omega)) hb3.size
  have z2 : w.heap.size + 1 + 1 < w3.heap.size := Nat.lt_of_lt_of_le (by first | assumption | (simp; done) | (simp; omega)) hb3.size
  have z3 : w1.heap.size < w3.heap.size := Nat.lt_of_lt_of_le (by first | assumption | (simp; done) | (simp; omega)) hb3.size
  have W3 := Lib.hid (bt hb3 (W2.out))
  clear hb3
  go_wp2_with fail
  refine (Mul_any p q r s _ h1 h2).mono ?_
  rintro e w4 ⟨rfl, hb4⟩
  rw [E2.out]
  have a0 := cell_at_below hb4 w.heap.size 0 (.int .i64 p) (by go_simp)
  have a1 := cell_at_below hb4 w.heap.size 1 (.int .i64 q) (by go_simp)
  have b0 := cell_at_below hb4 (w.heap.size + 1) 0 (.int .i64 r) (by go_simp)
  have b1 := cell_at_below hb4 (w.heap.size + 1) 1 (.int .i64 s) (by go_simp)
  have c0 := cell_at_below hb4 (w.heap.size + 1 + 1) 0 (.int .i64 u) (by go_simp)
  have c1 := cell_at_below hb4 (w.heap.size + 1 + 1) 1 (.int .i64 v) (by go_simp)
  have x0 := cell_at_below hb4 w1.heap.size 0 (.int .i64 x) (by go_simp)
  have x1 := cell_at_below hb4 w1.heap.size 1 (.int .i64 y) (by go_simp)
  have s0 := cell_at_below hb4 w3.heap.size 0 (.int .i64 p) (by go_simp)
  have s1 := cell_at_below hb4 w3.heap.size 1 (.int .i64 q) (by go_simp)
  have z0 : w.heap.size < w4.heap.size := Nat.lt_of_lt_of_le (by first | assumption | (simp; done) | (simp; omega)) hb4.size
  have z1 : w.heap.size + 1 < w4.heap.size := Nat.lt_of_lt_of_le (by first | assumption | (simp; done) | (simp; omega)) hb4.size
  have z2 : w.heap.size + 1 + 1 < w4.heap.size := Nat.lt_of_lt_of_le (by first | assumption | (simp; done) | (simp; omega)) hb4.size
  have z3 : w1.heap.size < w4.heap.size := Nat.lt_of_lt_of_le (by first | assumption | (simp; done) | (simp; omega)) hb4.size
  have z4 : w3.heap.size < w4.heap.size := Nat.lt_of_lt_of_le (by first | assumption | (simp; done) | (simp; omega)) hb4.size
  have W4 := Lib.hid (bt hb4 (bt (below_alloc1 w3 (.cells #[.int .i64 p, .int .i64 q] 23)) W3.out))
  clear hb4
  go_wp2_with fail
  refine (Add_any u v r s _ h3 h2).mono ?_
  rintro e w5 ⟨rfl, hb5⟩
  rw [E3.out]
  have a0 := cell_at_below hb5 w.heap.size 0 (.int .i64 p) (by go_simp)
  have a1 := cell_at_below hb5 w.heap.size 1 (.int .i64 q) (by go_simp)
  have b0 := cell_at_below hb5 (w.heap.size + 1) 0 (.int .i64 r) (by go_simp)
  have b1 := cell_at_below hb5 (w.heap.size + 1) 1 (.int .i64 s) (by go_simp)
  have c0 := cell_at_below hb5 (w.heap.size + 1 + 1) 0 (.int .i64 u) (by go_simp)
  have c1 := cell_at_below hb5 (w.heap.size + 1 + 1) 1 (.int .i64 v) (by go_simp)
  have x0 := cell_at_below hb5 w1.heap.size 0 (.int .i64 x) (by go_simp)
  have x1 := cell_at_below hb5 w1.heap.size 1 (.int .i64 y) (by go_simp)
  have s0 := cell_at_below hb5 w3.heap.size 0 (.int .i64 p) (by go_simp)
  have s1 := cell_at_below hb5 w3.heap.size 1 (.int .i64 q) (by go_simp)
  have m0 := cell_at_below hb5 w4.heap.size 0 (.int .i64 x2) (by go_simp)
  have m1 := cell_at_below hb5 w4.heap.size 1 (.int .i64 y2) (by go_simp)
  have z0 : w.heap.size < w5.heap.size := Nat.lt_of_lt_of_le (by first | assumption | (simp; done) | (simp; omega)) hb5.size
  have z1 : w.heap.size + 1 < w5.heap.size := Nat.lt_of_lt_of_le (by first | assumption | (simp; done) | (simp; omega)) hb5.size
  have z2 : w.heap.size + 1 + 1 < w5.heap.size := Nat.lt_of_lt_of_le (by first | assumption | (simp; done) | (simp; omega)) hb5.size
  have z3 : w1.heap.size < w5.heap.size := Nat.lt_of_lt_of_le (by first | assumption | (simp; done) | (simp; omega)) hb5.size
  have z4 : w3.heap.size < w5.heap.size := Nat.lt_of_lt_of_le (by first | assumption | (simp; done) | (simp; omega)) hb5.size
  have z5 : w4.heap.size < w5.heap.size := Nat.lt_of_lt_of_le (by first | assumption | (simp; done) | (simp; omega)) hb5.size
  have W5 := Lib.hid (bt hb5 (bt (below_alloc1 w4 (.cells #[.int .i64 x2, .int .i64 y2] 23)) W4.out))
  clear hb5
  go_wp2
  go_ret
  exact ⟨rfl, bt (below_alloc1 w5 (.cells #[.int .i64 m, .int .i64 n] 23)) W5.out⟩
set_option maxHeartbeats 2000000 in
set_option maxRecDepth 100000 in
theorem back_y_yes_y (p q r s u v x y x2 y2 m n  : Int) (w : World) (hG : G w) (h1 : Fit p q) (h2 : Fit r s) (h3 : Fit u v)
    (e1 : addR p q r s = (x, y, 0)) (e2 : doR 2 p q r s = (x2, y2, 0)) (e3 : addR u v r s = (m, n, 0)) (hr : r ≠ 0) (hrb : (r == 0) = false) :
    Calls Tryd.prog 12 #[.agg #[.int .i64 p, .int .i64 q], .agg #[.int .i64 r, .int .i64 s], .agg #[.int .i64 u, .int .i64 v]] w fun e w' => e = .returned (.bool true) ∧ Below w.heap.size w w' := by
  have HG := Lib.hid hG
  clear hG
  have E4 := Lib.hid (add_sub (add_is e1).1 (add_is e1).2.1 e1).2
  have hxy := fitR (add_is e1).2.2.1
  have E5 := Lib.hid (mul_div (do_is e2).1 (do_is e2).2 hr e2).2
  have hx2 := fitR (mul_div (do_is e2).1 (do_is e2).2 hr e2).1
  have hmn := fitR (add_is e3).2.2.1
  have hcc := cmp_add e1 e3
  obtain ⟨cc, ecc⟩ : ∃ c, cmpV p q u v = c := ⟨_, rfl⟩
  rw [ecc] at hcc
  have E6 := Lib.hid (⟨ecc, hcc.2⟩ : cmpV p q u v = cc ∧ bothE p q u v = 0 ∧ bothE x y m n = 0)
  have E7 := Lib.hid hcc.1
  clear hcc ecc
  have E1 := Lib.hid e1
  have E2 := Lib.hid e2
  have E3 := Lib.hid e3
  clear e1 e2 e3
  clear hr
  go_enter Tryd.func12, Tryd.ntmps12
  go_wp2_with fail
  refine (Add_any p q r s _ h1 h2).mono ?_
  rintro e w1 ⟨rfl, hb1⟩
  rw [E1.out]
  have a0 := cell_at_below hb1 w.heap.size 0 (.int .i64 p) (by go_simp)
  have a1 := cell_at_below hb1 w.heap.size 1 (.int .i64 q) (by go_simp)
  have b0 := cell_at_below hb1 (w.heap.size + 1) 0 (.int .i64 r) (by go_simp)
  have b1 := cell_at_below hb1 (w.heap.size + 1) 1 (.int .i64 s) (by go_simp)
  have c0 := cell_at_below hb1 (w.heap.size + 1 + 1) 0 (.int .i64 u) (by go_simp)
  have c1 := cell_at_below hb1 (w.heap.size + 1 + 1) 1 (.int .i64 v) (by go_simp)
  have z0 : w.heap.size < w1.heap.size := Nat.lt_of_lt_of_le (by first | assumption | (simp; done) | (simp; omega)) hb1.size
  have z1 : w.heap.size + 1 < w1.heap.size := Nat.lt_of_lt_of_le (by first | assumption | (simp; done) | (simp; omega)) hb1.size
  have z2 : w.heap.size + 1 + 1 < w1.heap.size := Nat.lt_of_lt_of_le (by first | assumption | (simp; done) | (simp; omega)) hb1.size
  have W1 := Lib.hid (bt hb1 ((below_alloc3 w _ _ _)))
  clear hb1
  go_wp2_with fail
  refine (lives_any _ (HG.out.below (bt (below_alloc1 w1 (.cells #[.int .i64 x, .int .i64 y] 23)) W1.out))).mono ?_
  rintro e w2 ⟨rfl, hb2⟩
  have a0 := cell_at_below hb2 w.heap.size 0 (.int .i64 p) (by go_simp)
  have a1 := cell_at_below hb2 w.heap.size 1 (.int .i64 q) (by go_simp)
  have b0 := cell_at_below hb2 (w.heap.size + 1) 0 (.int .i64 r) (by go_simp)
  have b1 := cell_at_below hb2 (w.heap.size + 1) 1 (.int .i64 s) (by go_simp)
  have c0 := cell_at_below hb2 (w.heap.size + 1 + 1) 0 (.int .i64 u) (by go_simp)
  have c1 := cell_at_below hb2 (w.heap.size + 1 + 1) 1 (.int .i64 v) (by go_simp)
  have x0 := cell_at_below hb2 w1.heap.size 0 (.int .i64 x) (by go_simp)
  have x1 := cell_at_below hb2 w1.heap.size 1 (.int .i64 y) (by go_simp)
  have z0 : w.heap.size < w2.heap.size := Nat.lt_of_lt_of_le (by first | assumption | (simp; done) | (simp; omega)) hb2.size
  have z1 : w.heap.size + 1 < w2.heap.size := Nat.lt_of_lt_of_le (by first | assumption | (simp; done) | (simp; omega)) hb2.size
  have z2 : w.heap.size + 1 + 1 < w2.heap.size := Nat.lt_of_lt_of_le (by first | assumption | (simp; done) | (simp; omega)) hb2.size
  have z3 : w1.heap.size < w2.heap.size := Nat.lt_of_lt_of_le (by first | assumption | (simp; done) | (simp; omega)) hb2.size
  have W2 := Lib.hid (bt hb2 (bt (below_alloc1 w1 (.cells #[.int .i64 x, .int .i64 y] 23)) W1.out))
  clear hb2
  go_wp2_with fail
  refine (Sub_any x y r s _ hxy h2).mono ?_
  rintro e w3 ⟨rfl, hb3⟩
  rw [E4.out]
  have a0 := cell_at_below hb3 w.heap.size 0 (.int .i64 p) (by go_simp)
  have a1 := cell_at_below hb3 w.heap.size 1 (.int .i64 q) (by go_simp)
  have b0 := cell_at_below hb3 (w.heap.size + 1) 0 (.int .i64 r) (by go_simp)
  have b1 := cell_at_below hb3 (w.heap.size + 1) 1 (.int .i64 s) (by go_simp)
  have c0 := cell_at_below hb3 (w.heap.size + 1 + 1) 0 (.int .i64 u) (by go_simp)
  have c1 := cell_at_below hb3 (w.heap.size + 1 + 1) 1 (.int .i64 v) (by go_simp)
  have x0 := cell_at_below hb3 w1.heap.size 0 (.int .i64 x) (by go_simp)
  have x1 := cell_at_below hb3 w1.heap.size 1 (.int .i64 y) (by go_simp)
  have z0 : w.heap.size < w3.heap.size := Nat.lt_of_lt_of_le (by first | assumption | (simp; done) | (simp; omega)) hb3.size
  have z1 : w.heap.size + 1 < w3.heap.size := Nat.lt_of_lt_of_le (by first | assumption | (simp; done) | (simp; omega)) hb3.size
  have z2 : w.heap.size + 1 + 1 < w3.heap.size := Nat.lt_of_lt_of_le (by first | assumption | (simp; done) | (simp; omega)) hb3.size
  have z3 : w1.heap.size < w3.heap.size := Nat.lt_of_lt_of_le (by first | assumption | (simp; done) | (simp; omega)) hb3.size
  have W3 := Lib.hid (bt hb3 (W2.out))
  clear hb3
  go_wp2_with fail
  refine (Mul_any p q r s _ h1 h2).mono ?_
  rintro e w4 ⟨rfl, hb4⟩
  rw [E2.out]
  have a0 := cell_at_below hb4 w.heap.size 0 (.int .i64 p) (by go_simp)
  have a1 := cell_at_below hb4 w.heap.size 1 (.int .i64 q) (by go_simp)
  have b0 := cell_at_below hb4 (w.heap.size + 1) 0 (.int .i64 r) (by go_simp)
  have b1 := cell_at_below hb4 (w.heap.size + 1) 1 (.int .i64 s) (by go_simp)
  have c0 := cell_at_below hb4 (w.heap.size + 1 + 1) 0 (.int .i64 u) (by go_simp)
  have c1 := cell_at_below hb4 (w.heap.size + 1 + 1) 1 (.int .i64 v) (by go_simp)
  have x0 := cell_at_below hb4 w1.heap.size 0 (.int .i64 x) (by go_simp)
  have x1 := cell_at_below hb4 w1.heap.size 1 (.int .i64 y) (by go_simp)
  have s0 := cell_at_below hb4 w3.heap.size 0 (.int .i64 p) (by go_simp)
  have s1 := cell_at_below hb4 w3.heap.size 1 (.int .i64 q) (by go_simp)
  have z0 : w.heap.size < w4.heap.size := Nat.lt_of_lt_of_le (by first | assumption | (simp; done) | (simp; omega)) hb4.size
  have z1 : w.heap.size + 1 < w4.heap.size := Nat.lt_of_lt_of_le (by first | assumption | (simp; done) | (simp; omega)) hb4.size
  have z2 : w.heap.size + 1 + 1 < w4.heap.size := Nat.lt_of_lt_of_le (by first | assumption | (simp; done) | (simp; omega)) hb4.size
  have z3 : w1.heap.size < w4.heap.size := Nat.lt_of_lt_of_le (by first | assumption | (simp; done) | (simp; omega)) hb4.size
  have z4 : w3.heap.size < w4.heap.size := Nat.lt_of_lt_of_le (by first | assumption | (simp; done) | (simp; omega)) hb4.size
  have W4 := Lib.hid (bt hb4 (bt (below_alloc1 w3 (.cells #[.int .i64 p, .int .i64 q] 23)) W3.out))
  clear hb4
  go_wp2_with fail
  refine (Div_any x2 y2 r s _ hx2 h2).mono ?_
  rintro e w5 ⟨rfl, hb5⟩
  rw [E5.out]
  have a0 := cell_at_below hb5 w.heap.size 0 (.int .i64 p) (by go_simp)
  have a1 := cell_at_below hb5 w.heap.size 1 (.int .i64 q) (by go_simp)
  have b0 := cell_at_below hb5 (w.heap.size + 1) 0 (.int .i64 r) (by go_simp)
  have b1 := cell_at_below hb5 (w.heap.size + 1) 1 (.int .i64 s) (by go_simp)
  have c0 := cell_at_below hb5 (w.heap.size + 1 + 1) 0 (.int .i64 u) (by go_simp)
  have c1 := cell_at_below hb5 (w.heap.size + 1 + 1) 1 (.int .i64 v) (by go_simp)
  have x0 := cell_at_below hb5 w1.heap.size 0 (.int .i64 x) (by go_simp)
  have x1 := cell_at_below hb5 w1.heap.size 1 (.int .i64 y) (by go_simp)
  have s0 := cell_at_below hb5 w3.heap.size 0 (.int .i64 p) (by go_simp)
  have s1 := cell_at_below hb5 w3.heap.size 1 (.int .i64 q) (by go_simp)
  have m0 := cell_at_below hb5 w4.heap.size 0 (.int .i64 x2) (by go_simp)
  have m1 := cell_at_below hb5 w4.heap.size 1 (.int .i64 y2) (by go_simp)
  have z0 : w.heap.size < w5.heap.size := Nat.lt_of_lt_of_le (by first | assumption | (simp; done) | (simp; omega)) hb5.size
  have z1 : w.heap.size + 1 < w5.heap.size := Nat.lt_of_lt_of_le (by first | assumption | (simp; done) | (simp; omega)) hb5.size
  have z2 : w.heap.size + 1 + 1 < w5.heap.size := Nat.lt_of_lt_of_le (by first | assumption | (simp; done) | (simp; omega)) hb5.size
  have z3 : w1.heap.size < w5.heap.size := Nat.lt_of_lt_of_le (by first | assumption | (simp; done) | (simp; omega)) hb5.size
  have z4 : w3.heap.size < w5.heap.size := Nat.lt_of_lt_of_le (by first | assumption | (simp; done) | (simp; omega)) hb5.size
  have z5 : w4.heap.size < w5.heap.size := Nat.lt_of_lt_of_le (by first | assumption | (simp; done) | (simp; omega)) hb5.size
  have W5 := Lib.hid (bt hb5 (bt (below_alloc1 w4 (.cells #[.int .i64 x2, .int .i64 y2] 23)) W4.out))
  clear hb5
  go_wp2_with fail
  refine (Add_any u v r s _ h3 h2).mono ?_
  rintro e w6 ⟨rfl, hb6⟩
  rw [E3.out]
  have a0 := cell_at_below hb6 w.heap.size 0 (.int .i64 p) (by go_simp)
  have a1 := cell_at_below hb6 w.heap.size 1 (.int .i64 q) (by go_simp)
  have b0 := cell_at_below hb6 (w.heap.size + 1) 0 (.int .i64 r) (by go_simp)
  have b1 := cell_at_below hb6 (w.heap.size + 1) 1 (.int .i64 s) (by go_simp)
  have c0 := cell_at_below hb6 (w.heap.size + 1 + 1) 0 (.int .i64 u) (by go_simp)
  have c1 := cell_at_below hb6 (w.heap.size + 1 + 1) 1 (.int .i64 v) (by go_simp)
  have x0 := cell_at_below hb6 w1.heap.size 0 (.int .i64 x) (by go_simp)
  have x1 := cell_at_below hb6 w1.heap.size 1 (.int .i64 y) (by go_simp)
  have s0 := cell_at_below hb6 w3.heap.size 0 (.int .i64 p) (by go_simp)
  have s1 := cell_at_below hb6 w3.heap.size 1 (.int .i64 q) (by go_simp)
  have m0 := cell_at_below hb6 w4.heap.size 0 (.int .i64 x2) (by go_simp)
  have m1 := cell_at_below hb6 w4.heap.size 1 (.int .i64 y2) (by go_simp)
  have d0 := cell_at_below hb6 w5.heap.size 0 (.int .i64 p) (by go_simp)
  have d1 := cell_at_below hb6 w5.heap.size 1 (.int .i64 q) (by go_simp)
  have z0 : w.heap.size < w6.heap.size := Nat.lt_of_lt_of_le (by first | assumption | (simp; done) | (simp; omega)) hb6.size
  have z1 : w.heap.size + 1 < w6.heap.size := Nat.lt_of_lt_of_le (by first | assumption | (simp; done) | (simp; omega)) hb6.size
  have z2 : w.heap.size + 1 + 1 < w6.heap.size := Nat.lt_of_lt_of_le (by first | assumption | (simp; done) | (simp; omega)) hb6.size
  have z3 : w1.heap.size < w6.heap.size := Nat.lt_of_lt_of_le (by first | assumption | (simp; done) | (simp; omega)) hb6.size
  have z4 : w3.heap.size < w6.heap.size := Nat.lt_of_lt_of_le (by first | assumption | (simp; done) | (simp; omega)) hb6.size
  have z5 : w4.heap.size < w6.heap.size := Nat.lt_of_lt_of_le (by first | assumption | (simp; done) | (simp; omega)) hb6.size
  have z6 : w5.heap.size < w6.heap.size := Nat.lt_of_lt_of_le (by first | assumption | (simp; done) | (simp; omega)) hb6.size
  have W6 := Lib.hid (bt hb6 (bt (below_alloc1 w5 (.cells #[.int .i64 p, .int .i64 q] 23)) W5.out))
  clear hb6
  go_wp2_with fail
  refine (Cmp_any p q u v _ h1 h3).mono ?_
  rintro e w7 ⟨rfl, hb7⟩
  rw [E6.out.1, E6.out.2.1]
  have a0 := cell_at_below hb7 w.heap.size 0 (.int .i64 p) (by go_simp)
  have a1 := cell_at_below hb7 w.heap.size 1 (.int .i64 q) (by go_simp)
  have b0 := cell_at_below hb7 (w.heap.size + 1) 0 (.int .i64 r) (by go_simp)
  have b1 := cell_at_below hb7 (w.heap.size + 1) 1 (.int .i64 s) (by go_simp)
  have c0 := cell_at_below hb7 (w.heap.size + 1 + 1) 0 (.int .i64 u) (by go_simp)
  have c1 := cell_at_below hb7 (w.heap.size + 1 + 1) 1 (.int .i64 v) (by go_simp)
  have x0 := cell_at_below hb7 w1.heap.size 0 (.int .i64 x) (by go_simp)
  have x1 := cell_at_below hb7 w1.heap.size 1 (.int .i64 y) (by go_simp)
  have s0 := cell_at_below hb7 w3.heap.size 0 (.int .i64 p) (by go_simp)
  have s1 := cell_at_below hb7 w3.heap.size 1 (.int .i64 q) (by go_simp)
  have m0 := cell_at_below hb7 w4.heap.size 0 (.int .i64 x2) (by go_simp)
  have m1 := cell_at_below hb7 w4.heap.size 1 (.int .i64 y2) (by go_simp)
  have d0 := cell_at_below hb7 w5.heap.size 0 (.int .i64 p) (by go_simp)
  have d1 := cell_at_below hb7 w5.heap.size 1 (.int .i64 q) (by go_simp)
  have t0 := cell_at_below hb7 w6.heap.size 0 (.int .i64 m) (by go_simp)
  have t1 := cell_at_below hb7 w6.heap.size 1 (.int .i64 n) (by go_simp)
  have z0 : w.heap.size < w7.heap.size := Nat.lt_of_lt_of_le (by first | assumption | (simp; done) | (simp; omega)) hb7.size
  have z1 : w.heap.size + 1 < w7.heap.size := Nat.lt_of_lt_of_le (by first | assumption | (simp; done) | (simp; omega)) hb7.size
  have z2 : w.heap.size + 1 + 1 < w7.heap.size := Nat.lt_of_lt_of_le (by first | assumption | (simp; done) | (simp; omega)) hb7.size
  have z3 : w1.heap.size < w7.heap.size := Nat.lt_of_lt_of_le (by first | assumption | (simp; done) | (simp; omega)) hb7.size
  have z4 : w3.heap.size < w7.heap.size := Nat.lt_of_lt_of_le (by first | assumption | (simp; done) | (simp; omega)) hb7.size
  have z5 : w4.heap.size < w7.heap.size := Nat.lt_of_lt_of_le (by first | assumption | (simp; done) | (simp; omega)) hb7.size
  have z6 : w5.heap.size < w7.heap.size := Nat.lt_of_lt_of_le (by first | assumption | (simp; done) | (simp; omega)) hb7.size
  have z7 : w6.heap.size < w7.heap.size := Nat.lt_of_lt_of_le (by first | assumption | (simp; done) | (simp; omega)) hb7.size
  have W7 := Lib.hid (bt hb7 (bt (below_alloc1 w6 (.cells #[.int .i64 m, .int .i64 n] 23)) W6.out))
  clear hb7
  go_wp2_with fail
  refine (Cmp_any x y m n _ hxy hmn).mono ?_
  rintro e w8 ⟨rfl, hb8⟩
  rw [E7.out, E6.out.2.2]
  have a0 := cell_at_below hb8 w.heap.size 0 (.int .i64 p) (by go_simp)
  have a1 := cell_at_below hb8 w.heap.size 1 (.int .i64 q) (by go_simp)
  have b0 := cell_at_below hb8 (w.heap.size + 1) 0 (.int .i64 r) (by go_simp)
  have b1 := cell_at_below hb8 (w.heap.size + 1) 1 (.int .i64 s) (by go_simp)
  have c0 := cell_at_below hb8 (w.heap.size + 1 + 1) 0 (.int .i64 u) (by go_simp)
  have c1 := cell_at_below hb8 (w.heap.size + 1 + 1) 1 (.int .i64 v) (by go_simp)
  have x0 := cell_at_below hb8 w1.heap.size 0 (.int .i64 x) (by go_simp)
  have x1 := cell_at_below hb8 w1.heap.size 1 (.int .i64 y) (by go_simp)
  have s0 := cell_at_below hb8 w3.heap.size 0 (.int .i64 p) (by go_simp)
  have s1 := cell_at_below hb8 w3.heap.size 1 (.int .i64 q) (by go_simp)
  have m0 := cell_at_below hb8 w4.heap.size 0 (.int .i64 x2) (by go_simp)
  have m1 := cell_at_below hb8 w4.heap.size 1 (.int .i64 y2) (by go_simp)
  have d0 := cell_at_below hb8 w5.heap.size 0 (.int .i64 p) (by go_simp)
  have d1 := cell_at_below hb8 w5.heap.size 1 (.int .i64 q) (by go_simp)
  have t0 := cell_at_below hb8 w6.heap.size 0 (.int .i64 m) (by go_simp)
  have t1 := cell_at_below hb8 w6.heap.size 1 (.int .i64 n) (by go_simp)
  have z0 : w.heap.size < w8.heap.size := Nat.lt_of_lt_of_le (by first | assumption | (simp; done) | (simp; omega)) hb8.size
  have z1 : w.heap.size + 1 < w8.heap.size := Nat.lt_of_lt_of_le (by first | assumption | (simp; done) | (simp; omega)) hb8.size
  have z2 : w.heap.size + 1 + 1 < w8.heap.size := Nat.lt_of_lt_of_le (by first | assumption | (simp; done) | (simp; omega)) hb8.size
  have z3 : w1.heap.size < w8.heap.size := Nat.lt_of_lt_of_le (by first | assumption | (simp; done) | (simp; omega)) hb8.size
  have z4 : w3.heap.size < w8.heap.size := Nat.lt_of_lt_of_le (by first | assumption | (simp; done) | (simp; omega)) hb8.size
  have z5 : w4.heap.size < w8.heap.size := Nat.lt_of_lt_of_le (by first | assumption | (simp; done) | (simp; omega)) hb8.size
  have z6 : w5.heap.size < w8.heap.size := Nat.lt_of_lt_of_le (by first | assumption | (simp; done) | (simp; omega)) hb8.size
  have z7 : w6.heap.size < w8.heap.size := Nat.lt_of_lt_of_le (by first | assumption | (simp; done) | (simp; omega)) hb8.size
  have W8 := Lib.hid (bt hb8 (W7.out))
  clear hb8
  go_wp2
  go_ret
  exact ⟨rfl, W8.out⟩
set_option maxHeartbeats 2000000 in
set_option maxRecDepth 100000 in
theorem back_y_yes_n (p q r s u v x y x2 y2 m n z3 : Int) (w : World) (hG : G w) (h1 : Fit p q) (h2 : Fit r s) (h3 : Fit u v)
    (e1 : addR p q r s = (x, y, 0)) (e2 : doR 2 p q r s = (x2, y2, 0)) (e3 : addR u v r s = (m, n, z3)) (hr : r ≠ 0) (hrb : (r == 0) = false) (hz3b : (z3 == 0) = false) :
    Calls Tryd.prog 12 #[.agg #[.int .i64 p, .int .i64 q], .agg #[.int .i64 r, .int .i64 s], .agg #[.int .i64 u, .int .i64 v]] w fun e w' => e = .returned (.bool true) ∧ Below w.heap.size w w' := by
  have HG := Lib.hid hG
  clear hG
  have hz3c : (z3 != 0) = true := by simp only [bne, hz3b, Bool.not_false]
  have E4 := Lib.hid (add_sub (add_is e1).1 (add_is e1).2.1 e1).2
  have hxy := fitR (add_is e1).2.2.1
  have E5 := Lib.hid (mul_div (do_is e2).1 (do_is e2).2 hr e2).2
  have hx2 := fitR (mul_div (do_is e2).1 (do_is e2).2 hr e2).1
  have E1 := Lib.hid e1
  have E2 := Lib.hid e2
  have E3 := Lib.hid e3
  clear e1 e2 e3
  clear hr
  go_enter Tryd.func12, Tryd.ntmps12
  go_wp2_with fail
  refine (Add_any p q r s _ h1 h2).mono ?_
  rintro e w1 ⟨rfl, hb1⟩
  rw [E1.out]
  have a0 := cell_at_below hb1 w.heap.size 0 (.int .i64 p) (by go_simp)
  have a1 := cell_at_below hb1 w.heap.size 1 (.int .i64 q) (by go_simp)
  have b0 := cell_at_below hb1 (w.heap.size + 1) 0 (.int .i64 r) (by go_simp)
  have b1 := cell_at_below hb1 (w.heap.size + 1) 1 (.int .i64 s) (by go_simp)
  have c0 := cell_at_below hb1 (w.heap.size + 1 + 1) 0 (.int .i64 u) (by go_simp)
  have c1 := cell_at_below hb1 (w.heap.size + 1 + 1) 1 (.int .i64 v) (by go_simp)
  have z0 : w.heap.size < w1.heap.size := Nat.lt_of_lt_of_le (by first | assumption | (simp; done) | (simp; omega)) hb1.size
  have z1 : w.heap.size + 1 < w1.heap.size := Nat.lt_of_lt_of_le (by first | assumption | (simp; done) | (simp; omega)) hb1.size
  have z2 : w.heap.size + 1 + 1 < w1.heap.size := Nat.lt_of_lt_of_le (by first | assumption | (simp; done) | (simp; omega)) hb1.size
  have W1 := Lib.hid (bt hb1 ((below_alloc3 w _ _ _)))
  clear hb1
  go_wp2_with fail
  refine (lives_any _ (HG.out.below (bt (below_alloc1 w1 (.cells #[.int .i64 x, .int .i64 y] 23)) W1.out))).mono ?_
  rintro e w2 ⟨rfl, hb2⟩
  have a0 := cell_at_below hb2 w.heap.size 0 (.int .i64 p) (by go_simp)
  have a1 := cell_at_below hb2 w.heap.size 1 (.int .i64 q) (by go_simp)
  have b0 := cell_at_below hb2 (w.heap.size + 1) 0 (.int .i64 r) (by go_simp)
  have b1 := cell_at_below hb2 (w.heap.size + 1) 1 (.int .i64 s) (by go_simp)
  have c0 := cell_at_below hb2 (w.heap.size + 1 + 1) 0 (.int .i64 u) (by go_simp)
  have c1 := cell_at_below hb2 (w.heap.size + 1 + 1) 1 (.int .i64 v) (by go_simp)
  have x0 := cell_at_below hb2 w1.heap.size 0 (.int .i64 x) (by go_simp)
  have x1 := cell_at_below hb2 w1.heap.size 1 (.int .i64 y) (by go_simp)
  have z0 : w.heap.size < w2.heap.size := Nat.lt_of_lt_of_le (by first | assumption | (simp; done) | (simp; omega)) hb2.size
  have z1 : w.heap.size + 1 < w2.heap.size := Nat.lt_of_lt_of_le (by first | assumption | (simp; done) | (simp; omega)) hb2.size
  have z2 : w.heap.size + 1 + 1 < w2.heap.size := Nat.lt_of_lt_of_le (by first | assumption | (simp; done) | (simp; omega)) hb2.size
  have z3 : w1.heap.size < w2.heap.size := Nat.lt_of_lt_of_le (by first | assumption | (simp; done) | (simp; omega)) hb2.size
  have W2 := Lib.hid (bt hb2 (bt (below_alloc1 w1 (.cells #[.int .i64 x, .int .i64 y] 23)) W1.out))
  clear hb2
  go_wp2_with fail
  refine (Sub_any x y r s _ hxy h2).mono ?_
  rintro e w3 ⟨rfl, hb3⟩
  rw [E4.out]
  have a0 := cell_at_below hb3 w.heap.size 0 (.int .i64 p) (by go_simp)
  have a1 := cell_at_below hb3 w.heap.size 1 (.int .i64 q) (by go_simp)
  have b0 := cell_at_below hb3 (w.heap.size + 1) 0 (.int .i64 r) (by go_simp)
  have b1 := cell_at_below hb3 (w.heap.size + 1) 1 (.int .i64 s) (by go_simp)
  have c0 := cell_at_below hb3 (w.heap.size + 1 + 1) 0 (.int .i64 u) (by go_simp)
  have c1 := cell_at_below hb3 (w.heap.size + 1 + 1) 1 (.int .i64 v) (by go_simp)
  have x0 := cell_at_below hb3 w1.heap.size 0 (.int .i64 x) (by go_simp)
  have x1 := cell_at_below hb3 w1.heap.size 1 (.int .i64 y) (by go_simp)
  have z0 : w.heap.size < w3.heap.size := Nat.lt_of_lt_of_le (by first | assumption | (simp; done) | (simp; omega)) hb3.size
  have z1 : w.heap.size + 1 < w3.heap.size := Nat.lt_of_lt_of_le (by first | assumption | (simp; done) | (simp; omega)) hb3.size
  have z2 : w.heap.size + 1 + 1 < w3.heap.size := Nat.lt_of_lt_of_le (by first | assumption | (simp; done) | (simp; omega)) hb3.size
  have z3 : w1.heap.size < w3.heap.size := Nat.lt_of_lt_of_le (by first | assumption | (simp; done) | (simp; omega)) hb3.size
  have W3 := Lib.hid (bt hb3 (W2.out))
  clear hb3
  go_wp2_with fail
  refine (Mul_any p q r s _ h1 h2).mono ?_
  rintro e w4 ⟨rfl, hb4⟩
  rw [E2.out]
  have a0 := cell_at_below hb4 w.heap.size 0 (.int .i64 p) (by go_simp)
  have a1 := cell_at_below hb4 w.heap.size 1 (.int .i64 q) (by go_simp)
  have b0 := cell_at_below hb4 (w.heap.size + 1) 0 (.int .i64 r) (by go_simp)
  have b1 := cell_at_below hb4 (w.heap.size + 1) 1 (.int .i64 s) (by go_simp)
  have c0 := cell_at_below hb4 (w.heap.size + 1 + 1) 0 (.int .i64 u) (by go_simp)
  have c1 := cell_at_below hb4 (w.heap.size + 1 + 1) 1 (.int .i64 v) (by go_simp)
  have x0 := cell_at_below hb4 w1.heap.size 0 (.int .i64 x) (by go_simp)
  have x1 := cell_at_below hb4 w1.heap.size 1 (.int .i64 y) (by go_simp)
  have s0 := cell_at_below hb4 w3.heap.size 0 (.int .i64 p) (by go_simp)
  have s1 := cell_at_below hb4 w3.heap.size 1 (.int .i64 q) (by go_simp)
  have z0 : w.heap.size < w4.heap.size := Nat.lt_of_lt_of_le (by first | assumption | (simp; done) | (simp; omega)) hb4.size
  have z1 : w.heap.size + 1 < w4.heap.size := Nat.lt_of_lt_of_le (by first | assumption | (simp; done) | (simp; omega)) hb4.size
  have z2 : w.heap.size + 1 + 1 < w4.heap.size := Nat.lt_of_lt_of_le (by first | assumption | (simp; done) | (simp; omega)) hb4.size
  have z3 : w1.heap.size < w4.heap.size := Nat.lt_of_lt_of_le (by first | assumption | (simp; done) | (simp; omega)) hb4.size
  have z4 : w3.heap.size < w4.heap.size := Nat.lt_of_lt_of_le (by first | assumption | (simp; done) | (simp; omega)) hb4.size
  have W4 := Lib.hid (bt hb4 (bt (below_alloc1 w3 (.cells #[.int .i64 p, .int .i64 q] 23)) W3.out))
  clear hb4
  go_wp2_with fail
  refine (Div_any x2 y2 r s _ hx2 h2).mono ?_
  rintro e w5 ⟨rfl, hb5⟩
  rw [E5.out]
  have a0 := cell_at_below hb5 w.heap.size 0 (.int .i64 p) (by go_simp)
  have a1 := cell_at_below hb5 w.heap.size 1 (.int .i64 q) (by go_simp)
  have b0 := cell_at_below hb5 (w.heap.size + 1) 0 (.int .i64 r) (by go_simp)
  have b1 := cell_at_below hb5 (w.heap.size + 1) 1 (.int .i64 s) (by go_simp)
  have c0 := cell_at_below hb5 (w.heap.size + 1 + 1) 0 (.int .i64 u) (by go_simp)
  have c1 := cell_at_below hb5 (w.heap.size + 1 + 1) 1 (.int .i64 v) (by go_simp)
  have x0 := cell_at_below hb5 w1.heap.size 0 (.int .i64 x) (by go_simp)
  have x1 := cell_at_below hb5 w1.heap.size 1 (.int .i64 y) (by go_simp)
  have s0 := cell_at_below hb5 w3.heap.size 0 (.int .i64 p) (by go_simp)
  have s1 := cell_at_below hb5 w3.heap.size 1 (.int .i64 q) (by go_simp)
  have m0 := cell_at_below hb5 w4.heap.size 0 (.int .i64 x2) (by go_simp)
  have m1 := cell_at_below hb5 w4.heap.size 1 (.int .i64 y2) (by go_simp)
  have z0 : w.heap.size < w5.heap.size := Nat.lt_of_lt_of_le (by first | assumption | (simp; done) | (simp; omega)) hb5.size
  have z1 : w.heap.size + 1 < w5.heap.size := Nat.lt_of_lt_of_le (by first | assumption | (simp; done) | (simp; omega)) hb5.size
  have z2 : w.heap.size + 1 + 1 < w5.heap.size := Nat.lt_of_lt_of_le (by first | assumption | (simp; done) | (simp; omega)) hb5.size
  have z3 : w1.heap.size < w5.heap.size := Nat.lt_of_lt_of_le (by first | assumption | (simp; done) | (simp; omega)) hb5.size
  have z4 : w3.heap.size < w5.heap.size := Nat.lt_of_lt_of_le (by first | assumption | (simp; done) | (simp; omega)) hb5.size
  have z5 : w4.heap.size < w5.heap.size := Nat.lt_of_lt_of_le (by first | assumption | (simp; done) | (simp; omega)) hb5.size
  have W5 := Lib.hid (bt hb5 (bt (below_alloc1 w4 (.cells #[.int .i64 x2, .int .i64 y2] 23)) W4.out))
  clear hb5
  go_wp2_with fail
  refine (Add_any u v r s _ h3 h2).mono ?_
  rintro e w6 ⟨rfl, hb6⟩
  rw [E3.out]
  have a0 := cell_at_below hb6 w.heap.size 0 (.int .i64 p) (by go_simp)
  have a1 := cell_at_below hb6 w.heap.size 1 (.int .i64 q) (by go_simp)
  have b0 := cell_at_below hb6 (w.heap.size + 1) 0 (.int .i64 r) (by go_simp)
  have b1 := cell_at_below hb6 (w.heap.size + 1) 1 (.int .i64 s) (by go_simp)
  have c0 := cell_at_below hb6 (w.heap.size + 1 + 1) 0 (.int .i64 u) (by go_simp)
  have c1 := cell_at_below hb6 (w.heap.size + 1 + 1) 1 (.int .i64 v) (by go_simp)
  have x0 := cell_at_below hb6 w1.heap.size 0 (.int .i64 x) (by go_simp)
  have x1 := cell_at_below hb6 w1.heap.size 1 (.int .i64 y) (by go_simp)
  have s0 := cell_at_below hb6 w3.heap.size 0 (.int .i64 p) (by go_simp)
  have s1 := cell_at_below hb6 w3.heap.size 1 (.int .i64 q) (by go_simp)
  have m0 := cell_at_below hb6 w4.heap.size 0 (.int .i64 x2) (by go_simp)
  have m1 := cell_at_below hb6 w4.heap.size 1 (.int .i64 y2) (by go_simp)
  have d0 := cell_at_below hb6 w5.heap.size 0 (.int .i64 p) (by go_simp)
  have d1 := cell_at_below hb6 w5.heap.size 1 (.int .i64 q) (by go_simp)
  have z0 : w.heap.size < w6.heap.size := Nat.lt_of_lt_of_le (by first | assumption | (simp; done) | (simp; omega)) hb6.size
  have z1 : w.heap.size + 1 < w6.heap.size := Nat.lt_of_lt_of_le (by first | assumption | (simp; done) | (simp; omega)) hb6.size
  have z2 : w.heap.size + 1 + 1 < w6.heap.size := Nat.lt_of_lt_of_le (by first | assumption | (simp; done) | (simp; omega)) hb6.size
  have z3 : w1.heap.size < w6.heap.size := Nat.lt_of_lt_of_le (by first | assumption | (simp; done) | (simp; omega)) hb6.size
  have z4 : w3.heap.size < w6.heap.size := Nat.lt_of_lt_of_le (by first | assumption | (simp; done) | (simp; omega)) hb6.size
  have z5 : w4.heap.size < w6.heap.size := Nat.lt_of_lt_of_le (by first | assumption | (simp; done) | (simp; omega)) hb6.size
  have z6 : w5.heap.size < w6.heap.size := Nat.lt_of_lt_of_le (by first | assumption | (simp; done) | (simp; omega)) hb6.size
  have W6 := Lib.hid (bt hb6 (bt (below_alloc1 w5 (.cells #[.int .i64 p, .int .i64 q] 23)) W5.out))
  clear hb6
  go_wp2
  go_ret
  exact ⟨rfl, bt (below_alloc1 w6 (.cells #[.int .i64 m, .int .i64 n] 23)) W6.out⟩
set_option maxHeartbeats 2000000 in
set_option maxRecDepth 100000 in
theorem back_y_no_y (p q r s u v x y x2 y2 m n z2 : Int) (w : World) (hG : G w) (h1 : Fit p q) (h2 : Fit r s) (h3 : Fit u v)
    (e1 : addR p q r s = (x, y, 0)) (e2 : doR 2 p q r s = (x2, y2, z2)) (e3 : addR u v r s = (m, n, 0)) (hz2b : (z2 == 0) = false) :
    Calls Tryd.prog 12 #[.agg #[.int .i64 p, .int .i64 q], .agg #[.int .i64 r, .int .i64 s], .agg #[.int .i64 u, .int .i64 v]] w fun e w' => e = .returned (.bool true) ∧ Below w.heap.size w w' := by
  have HG := Lib.hid hG
  clear hG
  have E4 := Lib.hid (add_sub (add_is e1).1 (add_is e1).2.1 e1).2
  have hxy := fitR (add_is e1).2.2.1
  have hmn := fitR (add_is e3).2.2.1
  have hcc := cmp_add e1 e3
  obtain ⟨cc, ecc⟩ : ∃ c, cmpV p q u v = c := ⟨_, rfl⟩
  rw [ecc] at hcc
  have E6 := Lib.hid (⟨ecc, hcc.2⟩ : cmpV p q u v = cc ∧ bothE p q u v = 0 ∧ bothE x y m n = 0)
  have E7 := Lib.hid hcc.1
  clear hcc ecc
  have E1 := Lib.hid e1
  have E2 := Lib.hid e2
  have E3 := Lib.hid e3
  clear e1 e2 e3
  go_enter Tryd.func12, Tryd.ntmps12
  go_wp2_with fail
  refine (Add_any p q r s _ h1 h2).mono ?_
  rintro e w1 ⟨rfl, hb1⟩
  rw [E1.out]
  have a0 := cell_at_below hb1 w.heap.size 0 (.int .i64 p) (by go_simp)
  have a1 := cell_at_below hb1 w.heap.size 1 (.int .i64 q) (by go_simp)
  have b0 := cell_at_below hb1 (w.heap.size + 1) 0 (.int .i64 r) (by go_simp)
  have b1 := cell_at_below hb1 (w.heap.size + 1) 1 (.int .i64 s) (by go_simp)
  have c0 := cell_at_below hb1 (w.heap.size + 1 + 1) 0 (.int .i64 u) (by go_simp)
  have c1 := cell_at_below hb1 (w.heap.size + 1 + 1) 1 (.int .i64 v) (by go_simp)
  have z0 : w.heap.size < w1.heap.size := Nat.lt_of_lt_of_le (by first | assumption | (simp; done) | (simp; omega)) hb1.size
  have z1 : w.heap.size + 1 < w1.heap.size := Nat.lt_of_lt_of_le (by first | assumption | (simp; done) | (simp; omega)) hb1.size
  have z2 : w.heap.size + 1 + 1 < w1.heap.size := Nat.lt_of_lt_of_le (by first | assumption | (simp; done) | (simp; omega)) hb1.size
  have W1 := Lib.hid (bt hb1 ((below_alloc3 w _ _ _)))
  clear hb1
  go_wp2_with fail
  refine (lives_any _ (HG.out.below (bt (below_alloc1 w1 (.cells #[.int .i64 x, .int .i64 y] 23)) W1.out))).mono ?_
  rintro e w2 ⟨rfl, hb2⟩
  have a0 := cell_at_below hb2 w.heap.size 0 (.int .i64 p) (by go_simp)
  have a1 := cell_at_below hb2 w.heap.size 1 (.int .i64 q) (by go_simp)
  have b0 := cell_at_below hb2 (w.heap.size + 1) 0 (.int .i64 r) (by go_simp)
  have b1 := cell_at_below hb2 (w.heap.size + 1) 1 (.int .i64 s) (by go_simp)
  have c0 := cell_at_below hb2 (w.heap.size + 1 + 1) 0 (.int .i64 u) (by go_simp)
  have c1 := cell_at_below hb2 (w.heap.size + 1 + 1) 1 (.int .i64 v) (by go_simp)
  have x0 := cell_at_below hb2 w1.heap.size 0 (.int .i64 x) (by go_simp)
  have x1 := cell_at_below hb2 w1.heap.size 1 (.int .i64 y) (by go_simp)
  have z0 : w.heap.size < w2.heap.size := Nat.lt_of_lt_of_le (by first | assumption | (simp; done) | (simp; omega)) hb2.size
  have z1 : w.heap.size + 1 < w2.heap.size := Nat.lt_of_lt_of_le (by first | assumption | (simp; done) | (simp; omega)) hb2.size
  have z2 : w.heap.size + 1 + 1 < w2.heap.size := Nat.lt_of_lt_of_le (by first | assumption | (simp; done) | (simp; omega)) hb2.size
  have z3 : w1.heap.size < w2.heap.size := Nat.lt_of_lt_of_le (by first | assumption | (simp; done) | (simp; omega)) hb2.size
  have W2 := Lib.hid (bt hb2 (bt (below_alloc1 w1 (.cells #[.int .i64 x, .int .i64 y] 23)) W1.out))
  clear hb2
  go_wp2_with fail
  refine (Sub_any x y r s _ hxy h2).mono ?_
  rintro e w3 ⟨rfl, hb3⟩
  rw [E4.out]
  have a0 := cell_at_below hb3 w.heap.size 0 (.int .i64 p) (by go_simp)
  have a1 := cell_at_below hb3 w.heap.size 1 (.int .i64 q) (by go_simp)
  have b0 := cell_at_below hb3 (w.heap.size + 1) 0 (.int .i64 r) (by go_simp)
  have b1 := cell_at_below hb3 (w.heap.size + 1) 1 (.int .i64 s) (by go_simp)
  have c0 := cell_at_below hb3 (w.heap.size + 1 + 1) 0 (.int .i64 u) (by go_simp)
  have c1 := cell_at_below hb3 (w.heap.size + 1 + 1) 1 (.int .i64 v) (by go_simp)
  have x0 := cell_at_below hb3 w1.heap.size 0 (.int .i64 x) (by go_simp)
  have x1 := cell_at_below hb3 w1.heap.size 1 (.int .i64 y) (by go_simp)
  have z0 : w.heap.size < w3.heap.size := Nat.lt_of_lt_of_le (by first | assumption | (simp; done) | (simp; omega)) hb3.size
  have z1 : w.heap.size + 1 < w3.heap.size := Nat.lt_of_lt_of_le (by first | assumption | (simp; done) | (simp; omega)) hb3.size
  have z2 : w.heap.size + 1 + 1 < w3.heap.size := Nat.lt_of_lt_of_le (by first | assumption | (simp; done) | (simp; omega)) hb3.size
  have z3 : w1.heap.size < w3.heap.size := Nat.lt_of_lt_of_le (by first | assumption | (simp; done) | (simp; omega)) hb3.size
  have W3 := Lib.hid (bt hb3 (W2.out))
  clear hb3
  go_wp2_with fail
  refine (Mul_any p q r s _ h1 h2).mono ?_
  rintro e w4 ⟨rfl, hb4⟩
  rw [E2.out]
  have a0 := cell_at_below hb4 w.heap.size 0 (.int .i64 p) (by go_simp)
  have a1 := cell_at_below hb4 w.heap.size 1 (.int .i64 q) (by go_simp)
  have b0 := cell_at_below hb4 (w.heap.size + 1) 0 (.int .i64 r) (by go_simp)
  have b1 := cell_at_below hb4 (w.heap.size + 1) 1 (.int .i64 s) (by go_simp)
  have c0 := cell_at_below hb4 (w.heap.size + 1 + 1) 0 (.int .i64 u) (by go_simp)
  have c1 := cell_at_below hb4 (w.heap.size + 1 + 1) 1 (.int .i64 v) (by go_simp)
  have x0 := cell_at_below hb4 w1.heap.size 0 (.int .i64 x) (by go_simp)
  have x1 := cell_at_below hb4 w1.heap.size 1 (.int .i64 y) (by go_simp)
  have s0 := cell_at_below hb4 w3.heap.size 0 (.int .i64 p) (by go_simp)
  have s1 := cell_at_below hb4 w3.heap.size 1 (.int .i64 q) (by go_simp)
  have z0 : w.heap.size < w4.heap.size := Nat.lt_of_lt_of_le (by first | assumption | (simp; done) | (simp; omega)) hb4.size
  have z1 : w.heap.size + 1 < w4.heap.size := Nat.lt_of_lt_of_le (by first | assumption | (simp; done) | (simp; omega)) hb4.size
  have z2 : w.heap.size + 1 + 1 < w4.heap.size := Nat.lt_of_lt_of_le (by first | assumption | (simp; done) | (simp; omega)) hb4.size
  have z3 : w1.heap.size < w4.heap.size := Nat.lt_of_lt_of_le (by first | assumption | (simp; done) | (simp; omega)) hb4.size
  have z4 : w3.heap.size < w4.heap.size := Nat.lt_of_lt_of_le (by first | assumption | (simp; done) | (simp; omega)) hb4.size
  have W4 := Lib.hid (bt hb4 (bt (below_alloc1 w3 (.cells #[.int .i64 p, .int .i64 q] 23)) W3.out))
  clear hb4
  go_wp2_with fail
  refine (Add_any u v r s _ h3 h2).mono ?_
  rintro e w5 ⟨rfl, hb5⟩
  rw [E3.out]
  have a0 := cell_at_below hb5 w.heap.size 0 (.int .i64 p) (by go_simp)
  have a1 := cell_at_below hb5 w.heap.size 1 (.int .i64 q) (by go_simp)
  have b0 := cell_at_below hb5 (w.heap.size + 1) 0 (.int .i64 r) (by go_simp)
  have b1 := cell_at_below hb5 (w.heap.size + 1) 1 (.int .i64 s) (by go_simp)
  have c0 := cell_at_below hb5 (w.heap.size + 1 + 1) 0 (.int .i64 u) (by go_simp)
  have c1 := cell_at_below hb5 (w.heap.size + 1 + 1) 1 (.int .i64 v) (by go_simp)
  have x0 := cell_at_below hb5 w1.heap.size 0 (.int .i64 x) (by go_simp)
  have x1 := cell_at_below hb5 w1.heap.size 1 (.int .i64 y) (by go_simp)
  have s0 := cell_at_below hb5 w3.heap.size 0 (.int .i64 p) (by go_simp)
  have s1 := cell_at_below hb5 w3.heap.size 1 (.int .i64 q) (by go_simp)
  have m0 := cell_at_below hb5 w4.heap.size 0 (.int .i64 x2) (by go_simp)
  have m1 := cell_at_below hb5 w4.heap.size 1 (.int .i64 y2) (by go_simp)
  have z0 : w.heap.size < w5.heap.size := Nat.lt_of_lt_of_le (by first | assumption | (simp; done) | (simp; omega)) hb5.size
  have z1 : w.heap.size + 1 < w5.heap.size := Nat.lt_of_lt_of_le (by first | assumption | (simp; done) | (simp; omega)) hb5.size
  have z2 : w.heap.size + 1 + 1 < w5.heap.size := Nat.lt_of_lt_of_le (by first | assumption | (simp; done) | (simp; omega)) hb5.size
  have z3 : w1.heap.size < w5.heap.size := Nat.lt_of_lt_of_le (by first | assumption | (simp; done) | (simp; omega)) hb5.size
  have z4 : w3.heap.size < w5.heap.size := Nat.lt_of_lt_of_le (by first | assumption | (simp; done) | (simp; omega)) hb5.size
  have z5 : w4.heap.size < w5.heap.size := Nat.lt_of_lt_of_le (by first | assumption | (simp; done) | (simp; omega)) hb5.size
  have W5 := Lib.hid (bt hb5 (bt (below_alloc1 w4 (.cells #[.int .i64 x2, .int .i64 y2] 23)) W4.out))
  clear hb5
  go_wp2_with fail
  refine (Cmp_any p q u v _ h1 h3).mono ?_
  rintro e w6 ⟨rfl, hb6⟩
  rw [E6.out.1, E6.out.2.1]
  have a0 := cell_at_below hb6 w.heap.size 0 (.int .i64 p) (by go_simp)
  have a1 := cell_at_below hb6 w.heap.size 1 (.int .i64 q) (by go_simp)
  have b0 := cell_at_below hb6 (w.heap.size + 1) 0 (.int .i64 r) (by go_simp)
  have b1 := cell_at_below hb6 (w.heap.size + 1) 1 (.int .i64 s) (by go_simp)
  have c0 := cell_at_below hb6 (w.heap.size + 1 + 1) 0 (.int .i64 u) (by go_simp)
  have c1 := cell_at_below hb6 (w.heap.size + 1 + 1) 1 (.int .i64 v) (by go_simp)
  have x0 := cell_at_below hb6 w1.heap.size 0 (.int .i64 x) (by go_simp)
  have x1 := cell_at_below hb6 w1.heap.size 1 (.int .i64 y) (by go_simp)
  have s0 := cell_at_below hb6 w3.heap.size 0 (.int .i64 p) (by go_simp)
  have s1 := cell_at_below hb6 w3.heap.size 1 (.int .i64 q) (by go_simp)
  have m0 := cell_at_below hb6 w4.heap.size 0 (.int .i64 x2) (by go_simp)
  have m1 := cell_at_below hb6 w4.heap.size 1 (.int .i64 y2) (by go_simp)
  have t0 := cell_at_below hb6 w5.heap.size 0 (.int .i64 m) (by go_simp)
  have t1 := cell_at_below hb6 w5.heap.size 1 (.int .i64 n) (by go_simp)
  have z0 : w.heap.size < w6.heap.size := Nat.lt_of_lt_of_le (by first | assumption | (simp; done) | (simp; omega)) hb6.size
  have z1 : w.heap.size + 1 < w6.heap.size := Nat.lt_of_lt_of_le (by first | assumption | (simp; done) | (simp; omega)) hb6.size
  have z2 : w.heap.size + 1 + 1 < w6.heap.size := Nat.lt_of_lt_of_le (by first | assumption | (simp; done) | (simp; omega)) hb6.size
  have z3 : w1.heap.size < w6.heap.size := Nat.lt_of_lt_of_le (by first | assumption | (simp; done) | (simp; omega)) hb6.size
  have z4 : w3.heap.size < w6.heap.size := Nat.lt_of_lt_of_le (by first | assumption | (simp; done) | (simp; omega)) hb6.size
  have z5 : w4.heap.size < w6.heap.size := Nat.lt_of_lt_of_le (by first | assumption | (simp; done) | (simp; omega)) hb6.size
  have z6 : w5.heap.size < w6.heap.size := Nat.lt_of_lt_of_le (by first | assumption | (simp; done) | (simp; omega)) hb6.size
  have W6 := Lib.hid (bt hb6 (bt (below_alloc1 w5 (.cells #[.int .i64 m, .int .i64 n] 23)) W5.out))
  clear hb6
  go_wp2_with fail
  refine (Cmp_any x y m n _ hxy hmn).mono ?_
  rintro e w7 ⟨rfl, hb7⟩
  rw [E7.out, E6.out.2.2]
  have a0 := cell_at_below hb7 w.heap.size 0 (.int .i64 p) (by go_simp)
  have a1 := cell_at_below hb7 w.heap.size 1 (.int .i64 q) (by go_simp)
  have b0 := cell_at_below hb7 (w.heap.size + 1) 0 (.int .i64 r) (by go_simp)
  have b1 := cell_at_below hb7 (w.heap.size + 1) 1 (.int .i64 s) (by go_simp)
  have c0 := cell_at_below hb7 (w.heap.size + 1 + 1) 0 (.int .i64 u) (by go_simp)
  have c1 := cell_at_below hb7 (w.heap.size + 1 + 1) 1 (.int .i64 v) (by go_simp)
  have x0 := cell_at_below hb7 w1.heap.size 0 (.int .i64 x) (by go_simp)
  have x1 := cell_at_below hb7 w1.heap.size 1 (.int .i64 y) (by go_simp)
  have s0 := cell_at_below hb7 w3.heap.size 0 (.int .i64 p) (by go_simp)
  have s1 := cell_at_below hb7 w3.heap.size 1 (.int .i64 q) (by go_simp)
  have m0 := cell_at_below hb7 w4.heap.size 0 (.int .i64 x2) (by go_simp)
  have m1 := cell_at_below hb7 w4.heap.size 1 (.int .i64 y2) (by go_simp)
  have t0 := cell_at_below hb7 w5.heap.size 0 (.int .i64 m) (by go_simp)
  have t1 := cell_at_below hb7 w5.heap.size 1 (.int .i64 n) (by go_simp)
  have z0 : w.heap.size < w7.heap.size := Nat.lt_of_lt_of_le (by first | assumption | (simp; done) | (simp; omega)) hb7.size
  have z1 : w.heap.size + 1 < w7.heap.size := Nat.lt_of_lt_of_le (by first | assumption | (simp; done) | (simp; omega)) hb7.size
  have z2 : w.heap.size + 1 + 1 < w7.heap.size := Nat.lt_of_lt_of_le (by first | assumption | (simp; done) | (simp; omega)) hb7.size
  have z3 : w1.heap.size < w7.heap.size := Nat.lt_of_lt_of_le (by first | assumption | (simp; done) | (simp; omega)) hb7.size
  have z4 : w3.heap.size < w7.heap.size := Nat.lt_of_lt_of_le (by first | assumption | (simp; done) | (simp; omega)) hb7.size
  have z5 : w4.heap.size < w7.heap.size := Nat.lt_of_lt_of_le (by first | assumption | (simp; done) | (simp; omega)) hb7.size
  have z6 : w5.heap.size < w7.heap.size := Nat.lt_of_lt_of_le (by first | assumption | (simp; done) | (simp; omega)) hb7.size
  have W7 := Lib.hid (bt hb7 (W6.out))
  clear hb7
  go_wp2
  go_ret
  exact ⟨rfl, W7.out⟩
set_option maxHeartbeats 2000000 in
set_option maxRecDepth 100000 in
theorem back_y_no_n (p q r s u v x y x2 y2 m n z2 z3 : Int) (w : World) (hG : G w) (h1 : Fit p q) (h2 : Fit r s) (h3 : Fit u v)
    (e1 : addR p q r s = (x, y, 0)) (e2 : doR 2 p q r s = (x2, y2, z2)) (e3 : addR u v r s = (m, n, z3)) (hz2b : (z2 == 0) = false) (hz3b : (z3 == 0) = false) :
    Calls Tryd.prog 12 #[.agg #[.int .i64 p, .int .i64 q], .agg #[.int .i64 r, .int .i64 s], .agg #[.int .i64 u, .int .i64 v]] w fun e w' => e = .returned (.bool true) ∧ Below w.heap.size w w' := by
  have HG := Lib.hid hG
  clear hG
  have hz3c : (z3 != 0) = true := by simp only [bne, hz3b, Bool.not_false]
  have E4 := Lib.hid (add_sub (add_is e1).1 (add_is e1).2.1 e1).2
  have hxy := fitR (add_is e1).2.2.1
  have E1 := Lib.hid e1
  have E2 := Lib.hid e2
  have E3 := Lib.hid e3
  clear e1 e2 e3
  go_enter Tryd.func12, Tryd.ntmps12
  go_wp2_with fail
  refine (Add_any p q r s _ h1 h2).mono ?_
  rintro e w1 ⟨rfl, hb1⟩
  rw [E1.out]
  have a0 := cell_at_below hb1 w.heap.size 0 (.int .i64 p) (by go_simp)
  have a1 := cell_at_below hb1 w.heap.size 1 (.int .i64 q) (by go_simp)
  have b0 := cell_at_below hb1 (w.heap.size + 1) 0 (.int .i64 r) (by go_simp)
  have b1 := cell_at_below hb1 (w.heap.size + 1) 1 (.int .i64 s) (by go_simp)
  have c0 := cell_at_below hb1 (w.heap.size + 1 + 1) 0 (.int .i64 u) (by go_simp)
  have c1 := cell_at_below hb1 (w.heap.size + 1 + 1) 1 (.int .i64 v) (by go_simp)
  have z0 : w.heap.size < w1.heap.size := Nat.lt_of_lt_of_le (by first | assumption | (simp; done) | (simp; omega)) hb1.size
  have z1 : w.heap.size + 1 < w1.heap.size := Nat.lt_of_lt_of_le (by first | assumption | (simp; done) | (simp; omega)) hb1.size
  have z2 : w.heap.size + 1 + 1 < w1.heap.size := Nat.lt_of_lt_of_le (by first | assumption | (simp; done) | (simp; omega)) hb1.size
  have W1 := Lib.hid (bt hb1 ((below_alloc3 w _ _ _)))
  clear hb1
  go_wp2_with fail
  refine (lives_any _ (HG.out.below (bt (below_alloc1 w1 (.cells #[.int .i64 x, .int .i64 y] 23)) W1.out))).mono ?_
  rintro e w2 ⟨rfl, hb2⟩
  have a0 := cell_at_below hb2 w.heap.size 0 (.int .i64 p) (by go_simp)
  have a1 := cell_at_below hb2 w.heap.size 1 (.int .i64 q) (by go_simp)
  have b0 := cell_at_below hb2 (w.heap.size + 1) 0 (.int .i64 r) (by go_simp)
  have b1 := cell_at_below hb2 (w.heap.size + 1) 1 (.int .i64 s) (by go_simp)
  have c0 := cell_at_below hb2 (w.heap.size + 1 + 1) 0 (.int .i64 u) (by go_simp)
  have c1 := cell_at_below hb2 (w.heap.size + 1 + 1) 1 (.int .i64 v) (by go_simp)
  have x0 := cell_at_below hb2 w1.heap.size 0 (.int .i64 x) (by go_simp)
  have x1 := cell_at_below hb2 w1.heap.size 1 (.int .i64 y) (by go_simp)
  have z0 : w.heap.size < w2.heap.size := Nat.lt_of_lt_of_le (by first | assumption | (simp; done) | (simp; omega)) hb2.size
  have z1 : w.heap.size + 1 < w2.heap.size := Nat.lt_of_lt_of_le (by first | assumption | (simp; done) | (simp; omega)) hb2.size
  have z2 : w.heap.size + 1 + 1 < w2.heap.size := Nat.lt_of_lt_of_le (by first | assumption | (simp; done) | (simp; omega)) hb2.size
  have z3 : w1.heap.size < w2.heap.size := Nat.lt_of_lt_of_le (by first | assumption | (simp; done) | (simp; omega)) hb2.size
  have W2 := Lib.hid (bt hb2 (bt (below_alloc1 w1 (.cells #[.int .i64 x, .int .i64 y] 23)) W1.out))
  clear hb2
  go_wp2_with fail
  refine (Sub_any x y r s _ hxy h2).mono ?_
  rintro e w3 ⟨rfl, hb3⟩
  rw [E4.out]
  have a0 := cell_at_below hb3 w.heap.size 0 (.int .i64 p) (by go_simp)
  have a1 := cell_at_below hb3 w.heap.size 1 (.int .i64 q) (by go_simp)
  have b0 := cell_at_below hb3 (w.heap.size + 1) 0 (.int .i64 r) (by go_simp)
  have b1 := cell_at_below hb3 (w.heap.size + 1) 1 (.int .i64 s) (by go_simp)
  have c0 := cell_at_below hb3 (w.heap.size + 1 + 1) 0 (.int .i64 u) (by go_simp)
  have c1 := cell_at_below hb3 (w.heap.size + 1 + 1) 1 (.int .i64 v) (by go_simp)
  have x0 := cell_at_below hb3 w1.heap.size 0 (.int .i64 x) (by go_simp)
  have x1 := cell_at_below hb3 w1.heap.size 1 (.int .i64 y) (by go_simp)
  have z0 : w.heap.size < w3.heap.size := Nat.lt_of_lt_of_le (by first | assumption | (simp; done) | (simp; omega)) hb3.size
  have z1 : w.heap.size + 1 < w3.heap.size := Nat.lt_of_lt_of_le (by first | assumption | (simp; done) | (simp; omega)) hb3.size
  have z2 : w.heap.size + 1 + 1 < w3.heap.size := Nat.lt_of_lt_of_le (by first | assumption | (simp; done) | (simp; omega)) hb3.size
  have z3 : w1.heap.size < w3.heap.size := Nat.lt_of_lt_of_le (by first | assumption | (simp; done) | (simp; omega)) hb3.size
  have W3 := Lib.hid (bt hb3 (W2.out))
  clear hb3
  go_wp2_with fail
  refine (Mul_any p q r s _ h1 h2).mono ?_
  rintro e w4 ⟨rfl, hb4⟩
  rw [E2.out]
  have a0 := cell_at_below hb4 w.heap.size 0 (.int .i64 p) (by go_simp)
  have a1 := cell_at_below hb4 w.heap.size 1 (.int .i64 q) (by go_simp)
  have b0 := cell_at_below hb4 (w.heap.size + 1) 0 (.int .i64 r) (by go_simp)
  have b1 := cell_at_below hb4 (w.heap.size + 1) 1 (.int .i64 s) (by go_simp)
  have c0 := cell_at_below hb4 (w.heap.size + 1 + 1) 0 (.int .i64 u) (by go_simp)
  have c1 := cell_at_below hb4 (w.heap.size + 1 + 1) 1 (.int .i64 v) (by go_simp)
  have x0 := cell_at_below hb4 w1.heap.size 0 (.int .i64 x) (by go_simp)
  have x1 := cell_at_below hb4 w1.heap.size 1 (.int .i64 y) (by go_simp)
  have s0 := cell_at_below hb4 w3.heap.size 0 (.int .i64 p) (by go_simp)
  have s1 := cell_at_below hb4 w3.heap.size 1 (.int .i64 q) (by go_simp)
  have z0 : w.heap.size < w4.heap.size := Nat.lt_of_lt_of_le (by first | assumption | (simp; done) | (simp; omega)) hb4.size
  have z1 : w.heap.size + 1 < w4.heap.size := Nat.lt_of_lt_of_le (by first | assumption | (simp; done) | (simp; omega)) hb4.size
  have z2 : w.heap.size + 1 + 1 < w4.heap.size := Nat.lt_of_lt_of_le (by first | assumption | (simp; done) | (simp; omega)) hb4.size
  have z3 : w1.heap.size < w4.heap.size := Nat.lt_of_lt_of_le (by first | assumption | (simp; done) | (simp; omega)) hb4.size
  have z4 : w3.heap.size < w4.heap.size := Nat.lt_of_lt_of_le (by first | assumption | (simp; done) | (simp; omega)) hb4.size
  have W4 := Lib.hid (bt hb4 (bt (below_alloc1 w3 (.cells #[.int .i64 p, .int .i64 q] 23)) W3.out))
  clear hb4
  go_wp2_with fail
  refine (Add_any u v r s _ h3 h2).mono ?_
  rintro e w5 ⟨rfl, hb5⟩
  rw [E3.out]
  have a0 := cell_at_below hb5 w.heap.size 0 (.int .i64 p) (by go_simp)
  have a1 := cell_at_below hb5 w.heap.size 1 (.int .i64 q) (by go_simp)
  have b0 := cell_at_below hb5 (w.heap.size + 1) 0 (.int .i64 r) (by go_simp)
  have b1 := cell_at_below hb5 (w.heap.size + 1) 1 (.int .i64 s) (by go_simp)
  have c0 := cell_at_below hb5 (w.heap.size + 1 + 1) 0 (.int .i64 u) (by go_simp)
  have c1 := cell_at_below hb5 (w.heap.size + 1 + 1) 1 (.int .i64 v) (by go_simp)
  have x0 := cell_at_below hb5 w1.heap.size 0 (.int .i64 x) (by go_simp)
  have x1 := cell_at_below hb5 w1.heap.size 1 (.int .i64 y) (by go_simp)
  have s0 := cell_at_below hb5 w3.heap.size 0 (.int .i64 p) (by go_simp)
  have s1 := cell_at_below hb5 w3.heap.size 1 (.int .i64 q) (by go_simp)
  have m0 := cell_at_below hb5 w4.heap.size 0 (.int .i64 x2) (by go_simp)
  have m1 := cell_at_below hb5 w4.heap.size 1 (.int .i64 y2) (by go_simp)
  have z0 : w.heap.size < w5.heap.size := Nat.lt_of_lt_of_le (by first | assumption | (simp; done) | (simp; omega)) hb5.size
  have z1 : w.heap.size + 1 < w5.heap.size := Nat.lt_of_lt_of_le (by first | assumption | (simp; done) | (simp; omega)) hb5.size
  have z2 : w.heap.size + 1 + 1 < w5.heap.size := Nat.lt_of_lt_of_le (by first | assumption | (simp; done) | (simp; omega)) hb5.size
  have z3 : w1.heap.size < w5.heap.size := Nat.lt_of_lt_of_le (by first | assumption | (simp; done) | (simp; omega)) hb5.size
  have z4 : w3.heap.size < w5.heap.size := Nat.lt_of_lt_of_le (by first | assumption | (simp; done) | (simp; omega)) hb5.size
  have z5 : w4.heap.size < w5.heap.size := Nat.lt_of_lt_of_le (by first | assumption | (simp; done) | (simp; omega)) hb5.size
  have W5 := Lib.hid (bt hb5 (bt (below_alloc1 w4 (.cells #[.int .i64 x2, .int .i64 y2] 23)) W4.out))
  clear hb5
  go_wp2
  go_ret
  exact ⟨rfl, bt (below_alloc1 w5 (.cells #[.int .i64 m, .int .i64 n] 23)) W5.out⟩
set_option maxHeartbeats 2000000 in
set_option maxRecDepth 100000 in
theorem back_n_zero_y (p q r s u v x y x2 y2 m n z : Int) (w : World) (hG : G w) (h1 : Fit p q) (h2 : Fit r s) (h3 : Fit u v)
    (e1 : addR p q r s = (x, y, z)) (e2 : doR 2 p q r s = (x2, y2, 0)) (e3 : addR u v r s = (m, n, 0)) (hz1b : (z == 0) = false) (hrb : (r == 0) = true) :
    Calls Tryd.prog 12 #[.agg #[.int .i64 p, .int .i64 q], .agg #[.int .i64 r, .int .i64 s], .agg #[.int .i64 u, .int .i64 v]] w fun e w' => e = .returned (.bool true) ∧ Below w.heap.size w w' := by
  have HG := Lib.hid hG
  clear hG
  have hz1c : (z != 0) = true := by simp only [bne, hz1b, Bool.not_false]
  have E1 := Lib.hid e1
  have E2 := Lib.hid e2
  have E3 := Lib.hid e3
  clear e1 e2 e3
  go_enter Tryd.func12, Tryd.ntmps12
  go_wp2_with fail
  refine (Add_any p q r s _ h1 h2).mono ?_
  rintro e w1 ⟨rfl, hb1⟩
  rw [E1.out]
  have a0 := cell_at_below hb1 w.heap.size 0 (.int .i64 p) (by go_simp)
  have a1 := cell_at_below hb1 w.heap.size 1 (.int .i64 q) (by go_simp)
  have b0 := cell_at_below hb1 (w.heap.size + 1) 0 (.int .i64 r) (by go_simp)
  have b1 := cell_at_below hb1 (w.heap.size + 1) 1 (.int .i64 s) (by go_simp)
  have c0 := cell_at_below hb1 (w.heap.size + 1 + 1) 0 (.int .i64 u) (by go_simp)
  have c1 := cell_at_below hb1 (w.heap.size + 1 + 1) 1 (.int .i64 v) (by go_simp)
  have z0 : w.heap.size < w1.heap.size := Nat.lt_of_lt_of_le (by first | assumption | (simp; done) | (simp; omega)) hb1.size
  have z1 : w.heap.size + 1 < w1.heap.size := Nat.lt_of_lt_of_le (by first | assumption | (simp; done) | (simp; omega)) hb1.size
  have z2 : w.heap.size + 1 + 1 < w1.heap.size := Nat.lt_of_lt_of_le (by first | assumption | (simp; done) | (simp; omega)) hb1.size
  have W1 := Lib.hid (bt hb1 ((below_alloc3 w _ _ _)))
  clear hb1
  go_wp2_with fail
  refine (lives_any _ (HG.out.below (bt (below_alloc1 w1 (.cells #[.int .i64 x, .int .i64 y] 23)) W1.out))).mono ?_
  rintro e w2 ⟨rfl, hb2⟩
  have a0 := cell_at_below hb2 w.heap.size 0 (.int .i64 p) (by go_simp)
  have a1 := cell_at_below hb2 w.heap.size 1 (.int .i64 q) (by go_simp)
  have b0 := cell_at_below hb2 (w.heap.size + 1) 0 (.int .i64 r) (by go_simp)
  have b1 := cell_at_below hb2 (w.heap.size + 1) 1 (.int .i64 s) (by go_simp)
  have c0 := cell_at_below hb2 (w.heap.size + 1 + 1) 0 (.int .i64 u) (by go_simp)
  have c1 := cell_at_below hb2 (w.heap.size + 1 + 1) 1 (.int .i64 v) (by go_simp)
  have x0 := cell_at_below hb2 w1.heap.size 0 (.int .i64 x) (by go_simp)
  have x1 := cell_at_below hb2 w1.heap.size 1 (.int .i64 y) (by go_simp)
  have z0 : w.heap.size < w2.heap.size := Nat.lt_of_lt_of_le (by first | assumption | (simp; done) | (simp; omega)) hb2.size
  have z1 : w.heap.size + 1 < w2.heap.size := Nat.lt_of_lt_of_le (by first | assumption | (simp; done) | (simp; omega)) hb2.size
  have z2 : w.heap.size + 1 + 1 < w2.heap.size := Nat.lt_of_lt_of_le (by first | assumption | (simp; done) | (simp; omega)) hb2.size
  have z3 : w1.heap.size < w2.heap.size := Nat.lt_of_lt_of_le (by first | assumption | (simp; done) | (simp; omega)) hb2.size
  have W2 := Lib.hid (bt hb2 (bt (below_alloc1 w1 (.cells #[.int .i64 x, .int .i64 y] 23)) W1.out))
  clear hb2
  go_wp2_with fail
  refine (Mul_any p q r s _ h1 h2).mono ?_
  rintro e w3 ⟨rfl, hb3⟩
  rw [E2.out]
  have a0 := cell_at_below hb3 w.heap.size 0 (.int .i64 p) (by go_simp)
  have a1 := cell_at_below hb3 w.heap.size 1 (.int .i64 q) (by go_simp)
  have b0 := cell_at_below hb3 (w.heap.size + 1) 0 (.int .i64 r) (by go_simp)
  have b1 := cell_at_below hb3 (w.heap.size + 1) 1 (.int .i64 s) (by go_simp)
  have c0 := cell_at_below hb3 (w.heap.size + 1 + 1) 0 (.int .i64 u) (by go_simp)
  have c1 := cell_at_below hb3 (w.heap.size + 1 + 1) 1 (.int .i64 v) (by go_simp)
  have x0 := cell_at_below hb3 w1.heap.size 0 (.int .i64 x) (by go_simp)
  have x1 := cell_at_below hb3 w1.heap.size 1 (.int .i64 y) (by go_simp)
  have z0 : w.heap.size < w3.heap.size := Nat.lt_of_lt_of_le (by first | assumption | (simp; done) | (simp; omega)) hb3.size
  have z1 : w.heap.size + 1 < w3.heap.size := Nat.lt_of_lt_of_le (by first | assumption | (simp; done) | (simp; omega)) hb3.size
  have z2 : w.heap.size + 1 + 1 < w3.heap.size := Nat.lt_of_lt_of_le (by first | assumption | (simp; done) | (simp; omega)) hb3.size
  have z3 : w1.heap.size < w3.heap.size := Nat.lt_of_lt_of_le (by first | assumption | (simp; done) | (simp; omega)) hb3.size
  have W3 := Lib.hid (bt hb3 (W2.out))
  clear hb3
  go_wp2_with fail
  refine (Add_any u v r s _ h3 h2).mono ?_
  rintro e w4 ⟨rfl, hb4⟩
  rw [E3.out]
  have a0 := cell_at_below hb4 w.heap.size 0 (.int .i64 p) (by go_simp)
  have a1 := cell_at_below hb4 w.heap.size 1 (.int .i64 q) (by go_simp)
  have b0 := cell_at_below hb4 (w.heap.size + 1) 0 (.int .i64 r) (by go_simp)
  have b1 := cell_at_below hb4 (w.heap.size + 1) 1 (.int .i64 s) (by go_simp)
  have c0 := cell_at_below hb4 (w.heap.size + 1 + 1) 0 (.int .i64 u) (by go_simp)
  have c1 := cell_at_below hb4 (w.heap.size + 1 + 1) 1 (.int .i64 v) (by go_simp)
  have x0 := cell_at_below hb4 w1.heap.size 0 (.int .i64 x) (by go_simp)
  have x1 := cell_at_below hb4 w1.heap.size 1 (.int .i64 y) (by go_simp)
  have m0 := cell_at_below hb4 w3.heap.size 0 (.int .i64 x2) (by go_simp)
  have m1 := cell_at_below hb4 w3.heap.size 1 (.int .i64 y2) (by go_simp)
  have z0 : w.heap.size < w4.heap.size := Nat.lt_of_lt_of_le (by first | assumption | (simp; done) | (simp; omega)) hb4.size
  have z1 : w.heap.size + 1 < w4.heap.size := Nat.lt_of_lt_of_le (by first | assumption | (simp; done) | (simp; omega)) hb4.size
  have z2 : w.heap.size + 1 + 1 < w4.heap.size := Nat.lt_of_lt_of_le (by first | assumption | (simp; done) | (simp; omega)) hb4.size
  have z3 : w1.heap.size < w4.heap.size := Nat.lt_of_lt_of_le (by first | assumption | (simp; done) | (simp; omega)) hb4.size
  have z4 : w3.heap.size < w4.heap.size := Nat.lt_of_lt_of_le (by first | assumption | (simp; done) | (simp; omega)) hb4.size
  have W4 := Lib.hid (bt hb4 (bt (below_alloc1 w3 (.cells #[.int .i64 x2, .int .i64 y2] 23)) W3.out))
  clear hb4
  go_wp2
  go_ret
  exact ⟨rfl, bt (below_alloc1 w4 (.cells #[.int .i64 m, .int .i64 n] 23)) W4.out⟩
set_option maxHeartbeats 2000000 in
set_option maxRecDepth 100000 in
theorem back_n_zero_n (p q r s u v x y x2 y2 m n z z3 : Int) (w : World) (hG : G w) (h1 : Fit p q) (h2 : Fit r s) (h3 : Fit u v)
    (e1 : addR p q r s = (x, y, z)) (e2 : doR 2 p q r s = (x2, y2, 0)) (e3 : addR u v r s = (m, n, z3)) (hz1b : (z == 0) = false) (hrb : (r == 0) = true) (hz3b : (z3 == 0) = false) :
    Calls Tryd.prog 12 #[.agg #[.int .i64 p, .int .i64 q], .agg #[.int .i64 r, .int .i64 s], .agg #[.int .i64 u, .int .i64 v]] w fun e w' => e = .returned (.bool true) ∧ Below w.heap.size w w' := by
  have HG := Lib.hid hG
  clear hG
  have hz1c : (z != 0) = true := by simp only [bne, hz1b, Bool.not_false]
  have hz3c : (z3 != 0) = true := by simp only [bne, hz3b, Bool.not_false]
  have E1 := Lib.hid e1
  have E2 := Lib.hid e2
  have E3 := Lib.hid e3
  clear e1 e2 e3
  go_enter Tryd.func12, Tryd.ntmps12
  go_wp2_with fail
  refine (Add_any p q r s _ h1 h2).mono ?_
  rintro e w1 ⟨rfl, hb1⟩
  rw [E1.out]
  have a0 := cell_at_below hb1 w.heap.size 0 (.int .i64 p) (by go_simp)
  have a1 := cell_at_below hb1 w.heap.size 1 (.int .i64 q) (by go_simp)
  have b0 := cell_at_below hb1 (w.heap.size + 1) 0 (.int .i64 r) (by go_simp)
  have b1 := cell_at_below hb1 (w.heap.size + 1) 1 (.int .i64 s) (by go_simp)
  have c0 := cell_at_below hb1 (w.heap.size + 1 + 1) 0 (.int .i64 u) (by go_simp)
  have c1 := cell_at_below hb1 (w.heap.size + 1 + 1) 1 (.int .i64 v) (by go_simp)
  have z0 : w.heap.size < w1.heap.size := Nat.lt_of_lt_of_le (by first | assumption | (simp; done) | (simp; omega)) hb1.size
  have z1 : w.heap.size + 1 < w1.heap.size := Nat.lt_of_lt_of_le (by first | assumption | (simp; done) | (simp; omega)) hb1.size
  have z2 : w.heap.size + 1 + 1 < w1.heap.size := Nat.lt_of_lt_of_le (by first | assumption | (simp; done) | (simp; omega)) hb1.size
  have W1 := Lib.hid (bt hb1 ((below_alloc3 w _ _ _)))
  clear hb1
  go_wp2_with fail
  refine (lives_any _ (HG.out.below (bt (below_alloc1 w1 (.cells #[.int .i64 x, .int .i64 y] 23)) W1.out))).mono ?_
  rintro e w2 ⟨rfl, hb2⟩
  have a0 := cell_at_below hb2 w.heap.size 0 (.int .i64 p) (by go_simp)
  have a1 := cell_at_below hb2 w.heap.size 1 (.int .i64 q) (by go_simp)
  have b0 := cell_at_below hb2 (w.heap.size + 1) 0 (.int .i64 r) (by go_simp)
  have b1 := cell_at_below hb2 (w.heap.size + 1) 1 (.int .i64 s) (by go_simp)
  have c0 := cell_at_below hb2 (w.heap.size + 1 + 1) 0 (.int .i64 u) (by go_simp)
  have c1 := cell_at_below hb2 (w.heap.size + 1 + 1) 1 (.int .i64 v) (by go_simp)
  have x0 := cell_at_below hb2 w1.heap.size 0 (.int .i64 x) (by go_simp)
  have x1 := cell_at_below hb2 w1.heap.size 1 (.int .i64 y) (by go_simp)
  have z0 : w.heap.size < w2.heap.size := Nat.lt_of_lt_of_le (by first | assumption | (simp; done) | (simp; omega)) hb2.size
  have z1 : w.heap.size + 1 < w2.heap.size := Nat.lt_of_lt_of_le (by first | assumption | (simp; done) | (simp; omega)) hb2.size
  have z2 : w.heap.size + 1 + 1 < w2.heap.size := Nat.lt_of_lt_of_le (by first | assumption | (simp; done) | (simp; omega)) hb2.size
  have z3 : w1.heap.size < w2.heap.size := Nat.lt_of_lt_of_le (by first | assumption | (simp; done) | (simp; omega)) hb2.size
  have W2 := Lib.hid (bt hb2 (bt (below_alloc1 w1 (.cells #[.int .i64 x, .int .i64 y] 23)) W1.out))
  clear hb2
  go_wp2_with fail
  refine (Mul_any p q r s _ h1 h2).mono ?_
  rintro e w3 ⟨rfl, hb3⟩
  rw [E2.out]
  have a0 := cell_at_below hb3 w.heap.size 0 (.int .i64 p) (by go_simp)
  have a1 := cell_at_below hb3 w.heap.size 1 (.int .i64 q) (by go_simp)
  have b0 := cell_at_below hb3 (w.heap.size + 1) 0 (.int .i64 r) (by go_simp)
  have b1 := cell_at_below hb3 (w.heap.size + 1) 1 (.int .i64 s) (by go_simp)
  have c0 := cell_at_below hb3 (w.heap.size + 1 + 1) 0 (.int .i64 u) (by go_simp)
  have c1 := cell_at_below hb3 (w.heap.size + 1 + 1) 1 (.int .i64 v) (by go_simp)
  have x0 := cell_at_below hb3 w1.heap.size 0 (.int .i64 x) (by go_simp)
  have x1 := cell_at_below hb3 w1.heap.size 1 (.int .i64 y) (by go_simp)
  have z0 : w.heap.size < w3.heap.size := Nat.lt_of_lt_of_le (by first | assumption | (simp; done) | (simp; omega)) hb3.size
  have z1 : w.heap.size + 1 < w3.heap.size := Nat.lt_of_lt_of_le (by first | assumption | (simp; done) | (simp; omega)) hb3.size
  have z2 : w.heap.size + 1 + 1 < w3.heap.size := Nat.lt_of_lt_of_le (by first | assumption | (simp; done) | (simp; omega)) hb3.size
  have z3 : w1.heap.size < w3.heap.size := Nat.lt_of_lt_of_le (by first | assumption | (simp; done) | (simp; omega)) hb3.size
  have W3 := Lib.hid (bt hb3 (W2.out))
  clear hb3
  go_wp2_with fail
  refine (Add_any u v r s _ h3 h2).mono ?_
  rintro e w4 ⟨rfl, hb4⟩
  rw [E3.out]
  have a0 := cell_at_below hb4 w.heap.size 0 (.int .i64 p) (by go_simp)
  have a1 := cell_at_below hb4 w.heap.size 1 (.int .i64 q) (by go_simp)
  have b0 := cell_at_below hb4 (w.heap.size + 1) 0 (.int .i64 r) (by go_simp)
  have b1 := cell_at_below hb4 (w.heap.size + 1) 1 (.int .i64 s) (by go_simp)
  have c0 := cell_at_below hb4 (w.heap.size + 1 + 1) 0 (.int .i64 u) (by go_simp)
  have c1 := cell_at_below hb4 (w.heap.size + 1 + 1) 1 (.int .i64 v) (by go_simp)
  have x0 := cell_at_below hb4 w1.heap.size 0 (.int .i64 x) (by go_simp)
  have x1 := cell_at_below hb4 w1.heap.size 1 (.int .i64 y) (by go_simp)
  have m0 := cell_at_below hb4 w3.heap.size 0 (.int .i64 x2) (by go_simp)
  have m1 := cell_at_below hb4 w3.heap.size 1 (.int .i64 y2) (by go_simp)
  have z0 : w.heap.size < w4.heap.size := Nat.lt_of_lt_of_le (by first | assumption | (simp; done) | (simp; omega)) hb4.size
  have z1 : w.heap.size + 1 < w4.heap.size := Nat.lt_of_lt_of_le (by first | assumption | (simp; done) | (simp; omega)) hb4.size
  have z2 : w.heap.size + 1 + 1 < w4.heap.size := Nat.lt_of_lt_of_le (by first | assumption | (simp; done) | (simp; omega)) hb4.size
  have z3 : w1.heap.size < w4.heap.size := Nat.lt_of_lt_of_le (by first | assumption | (simp; done) | (simp; omega)) hb4.size
  have z4 : w3.heap.size < w4.heap.size := Nat.lt_of_lt_of_le (by first | assumption | (simp; done) | (simp; omega)) hb4.size
  have W4 := Lib.hid (bt hb4 (bt (below_alloc1 w3 (.cells #[.int .i64 x2, .int .i64 y2] 23)) W3.out))
  clear hb4
  go_wp2
  go_ret
  exact ⟨rfl, bt (below_alloc1 w4 (.cells #[.int .i64 m, .int .i64 n] 23)) W4.out⟩
set_option maxHeartbeats 2000000 in
set_option maxRecDepth 100000 in
theorem back_n_yes_y (p q r s u v x y x2 y2 m n z : Int) (w : World) (hG : G w) (h1 : Fit p q) (h2 : Fit r s) (h3 : Fit u v)
    (e1 : addR p q r s = (x, y, z)) (e2 : doR 2 p q r s = (x2, y2, 0)) (e3 : addR u v r s = (m, n, 0)) (hz1b : (z == 0) = false) (hr : r ≠ 0) (hrb : (r == 0) = false) :
    Calls Tryd.prog 12 #[.agg #[.int .i64 p, .int .i64 q], .agg #[.int .i64 r, .int .i64 s], .agg #[.int .i64 u, .int .i64 v]] w fun e w' => e = .returned (.bool true) ∧ Below w.heap.size w w' := by
  have HG := Lib.hid hG
  clear hG
  have hz1c : (z != 0) = true := by simp only [bne, hz1b, Bool.not_false]
  have E5 := Lib.hid (mul_div (do_is e2).1 (do_is e2).2 hr e2).2
  have hx2 := fitR (mul_div (do_is e2).1 (do_is e2).2 hr e2).1
  have E1 := Lib.hid e1
  have E2 := Lib.hid e2
  have E3 := Lib.hid e3
  clear e1 e2 e3
  clear hr
  go_enter Tryd.func12, Tryd.ntmps12
  go_wp2_with fail
  refine (Add_any p q r s _ h1 h2).mono ?_
  rintro e w1 ⟨rfl, hb1⟩
  rw [E1.out]
  have a0 := cell_at_below hb1 w.heap.size 0 (.int .i64 p) (by go_simp)
  have a1 := cell_at_below hb1 w.heap.size 1 (.int .i64 q) (by go_simp)
  have b0 := cell_at_below hb1 (w.heap.size + 1) 0 (.int .i64 r) (by go_simp)
  have b1 := cell_at_below hb1 (w.heap.size + 1) 1 (.int .i64 s) (by go_simp)
  have c0 := cell_at_below hb1 (w.heap.size + 1 + 1) 0 (.int .i64 u) (by go_simp)
  have c1 := cell_at_below hb1 (w.heap.size + 1 + 1) 1 (.int .i64 v) (by go_simp)
  have z0 : w.heap.size < w1.heap.size := Nat.lt_of_lt_of_le (by first | assumption | (simp; done) | (simp; omega)) hb1.size
  have z1 : w.heap.size + 1 < w1.heap.size := Nat.lt_of_lt_of_le (by first | assumption | (simp; done) | (simp; omega)) hb1.size
  have z2 : w.heap.size + 1 + 1 < w1.heap.size := Nat.lt_of_lt_of_le (by first | assumption | (simp; done) | (simp; omega)) hb1.size
  have W1 := Lib.hid (bt hb1 ((below_alloc3 w _ _ _)))
  clear hb1
  go_wp2_with fail
  refine (lives_any _ (HG.out.below (bt (below_alloc1 w1 (.cells #[.int .i64 x, .int .i64 y] 23)) W1.out))).mono ?_
  rintro e w2 ⟨rfl, hb2⟩
  have a0 := cell_at_below hb2 w.heap.size 0 (.int .i64 p) (by go_simp)
  have a1 := cell_at_below hb2 w.heap.size 1 (.int .i64 q) (by go_simp)
  have b0 := cell_at_below hb2 (w.heap.size + 1) 0 (.int .i64 r) (by go_simp)
  have b1 := cell_at_below hb2 (w.heap.size + 1) 1 (.int .i64 s) (by go_simp)
  have c0 := cell_at_below hb2 (w.heap.size + 1 + 1) 0 (.int .i64 u) (by go_simp)
  have c1 := cell_at_below hb2 (w.heap.size + 1 + 1) 1 (.int .i64 v) (by go_simp)
  have x0 := cell_at_below hb2 w1.heap.size 0 (.int .i64 x) (by go_simp)
  have x1 := cell_at_below hb2 w1.heap.size 1 (.int .i64 y) (by go_simp)
  have z0 : w.heap.size < w2.heap.size := Nat.lt_of_lt_of_le (by first | assumption | (simp; done) | (simp; omega)) hb2.size
  have z1 : w.heap.size + 1 < w2.heap.size := Nat.lt_of_lt_of_le (by first | assumption | (simp; done) | (simp; omega)) hb2.size
  have z2 : w.heap.size + 1 + 1 < w2.heap.size := Nat.lt_of_lt_of_le (by first | assumption | (simp; done) | (simp; omega)) hb2.size
  have z3 : w1.heap.size < w2.heap.size := Nat.lt_of_lt_of_le (by first | assumption | (simp; done) | (simp; omega)) hb2.size
  have W2 := Lib.hid (bt hb2 (bt (below_alloc1 w1 (.cells #[.int .i64 x, .int .i64 y] 23)) W1.out))
  clear hb2
  go_wp2_with fail
  refine (Mul_any p q r s _ h1 h2).mono ?_
  rintro e w3 ⟨rfl, hb3⟩
  rw [E2.out]
  have a0 := cell_at_below hb3 w.heap.size 0 (.int .i64 p) (by go_simp)
  have a1 := cell_at_below hb3 w.heap.size 1 (.int .i64 q) (by go_simp)
  have b0 := cell_at_below hb3 (w.heap.size + 1) 0 (.int .i64 r) (by go_simp)
  have b1 := cell_at_below hb3 (w.heap.size + 1) 1 (.int .i64 s) (by go_simp)
  have c0 := cell_at_below hb3 (w.heap.size + 1 + 1) 0 (.int .i64 u) (by go_simp)
  have c1 := cell_at_below hb3 (w.heap.size + 1 + 1) 1 (.int .i64 v) (by go_simp)
  have x0 := cell_at_below hb3 w1.heap.size 0 (.int .i64 x) (by go_simp)
  have x1 := cell_at_below hb3 w1.heap.size 1 (.int .i64 y) (by go_simp)
  have z0 : w.heap.size < w3.heap.size := Nat.lt_of_lt_of_le (by first | assumption | (simp; done) | (simp; omega)) hb3.size
  have z1 : w.heap.size + 1 < w3.heap.size := Nat.lt_of_lt_of_le (by first | assumption | (simp; done) | (simp; omega)) hb3.size
  have z2 : w.heap.size + 1 + 1 < w3.heap.size := Nat.lt_of_lt_of_le (by first | assumption | (simp; done) | (simp; omega)) hb3.size
  have z3 : w1.heap.size < w3.heap.size := Nat.lt_of_lt_of_le (by first | assumption | (simp; done) | (simp; omega)) hb3.size
  have W3 := Lib.hid (bt hb3 (W2.out))
  clear hb3
  go_wp2_with fail
  refine (Div_any x2 y2 r s _ hx2 h2).mono ?_
  rintro e w4 ⟨rfl, hb4⟩
  rw [E5.out]
  have a0 := cell_at_below hb4 w.heap.size 0 (.int .i64 p) (by go_simp)
  have a1 := cell_at_below hb4 w.heap.size 1 (.int .i64 q) (by go_simp)
  have b0 := cell_at_below hb4 (w.heap.size + 1) 0 (.int .i64 r) (by go_simp)
  have b1 := cell_at_below hb4 (w.heap.size + 1) 1 (.int .i64 s) (by go_simp)
  have c0 := cell_at_below hb4 (w.heap.size + 1 + 1) 0 (.int .i64 u) (by go_simp)
  have c1 := cell_at_below hb4 (w.heap.size + 1 + 1) 1 (.int .i64 v) (by go_simp)
  have x0 := cell_at_below hb4 w1.heap.size 0 (.int .i64 x) (by go_simp)
  have x1 := cell_at_below hb4 w1.heap.size 1 (.int .i64 y) (by go_simp)
  have m0 := cell_at_below hb4 w3.heap.size 0 (.int .i64 x2) (by go_simp)
  have m1 := cell_at_below hb4 w3.heap.size 1 (.int .i64 y2) (by go_simp)
  have z0 : w.heap.size < w4.heap.size := Nat.lt_of_lt_of_le (by first | assumption | (simp; done) | (simp; omega)) hb4.size
  have z1 : w.heap.size + 1 < w4.heap.size := Nat.lt_of_lt_of_le (by first | assumption | (simp; done) | (simp; omega)) hb4.size
  have z2 : w.heap.size + 1 + 1 < w4.heap.size := Nat.lt_of_lt_of_le (by first | assumption | (simp; done) | (simp; omega)) hb4.size
  have z3 : w1.heap.size < w4.heap.size := Nat.lt_of_lt_of_le (by first | assumption | (simp; done) | (simp; omega)) hb4.size
  have z4 : w3.heap.size < w4.heap.size := Nat.lt_of_lt_of_le (by first | assumption | (simp; done) | (simp; omega)) hb4.size
  have W4 := Lib.hid (bt hb4 (bt (below_alloc1 w3 (.cells #[.int .i64 x2, .int .i64 y2] 23)) W3.out))
  clear hb4
  go_wp2_with fail
  refine (Add_any u v r s _ h3 h2).mono ?_
  rintro e w5 ⟨rfl, hb5⟩
  rw [E3.out]
  have a0 := cell_at_below hb5 w.heap.size 0 (.int .i64 p) (by go_simp)
  have a1 := cell_at_below hb5 w.heap.size 1 (.int .i64 q) (by go_simp)
  have b0 := cell_at_below hb5 (w.heap.size + 1) 0 (.int .i64 r) (by go_simp)
  have b1 := cell_at_below hb5 (w.heap.size + 1) 1 (.int .i64 s) (by go_simp)
  have c0 := cell_at_below hb5 (w.heap.size + 1 + 1) 0 (.int .i64 u) (by go_simp)
  have c1 := cell_at_below hb5 (w.heap.size + 1 + 1) 1 (.int .i64 v) (by go_simp)
  have x0 := cell_at_below hb5 w1.heap.size 0 (.int .i64 x) (by go_simp)
  have x1 := cell_at_below hb5 w1.heap.size 1 (.int .i64 y) (by go_simp)
  have m0 := cell_at_below hb5 w3.heap.size 0 (.int .i64 x2) (by go_simp)
  have m1 := cell_at_below hb5 w3.heap.size 1 (.int .i64 y2) (by go_simp)
  have d0 := cell_at_below hb5 w4.heap.size 0 (.int .i64 p) (by go_simp)
  have d1 := cell_at_below hb5 w4.heap.size 1 (.int .i64 q) (by go_simp)
  have z0 : w.heap.size < w5.heap.size := Nat.lt_of_lt_of_le (by first | assumption | (simp; done) | (simp; omega)) hb5.size
  have z1 : w.heap.size + 1 < w5.heap.size := Nat.lt_of_lt_of_le (by first | assumption | (simp; done) | (simp; omega)) hb5.size
  have z2 : w.heap.size + 1 + 1 < w5.heap.size := Nat.lt_of_lt_of_le (by first | assumption | (simp; done) | (simp; omega)) hb5.size
  have z3 : w1.heap.size < w5.heap.size := Nat.lt_of_lt_of_le (by first | assumption | (simp; done) | (simp; omega)) hb5.size
  have z4 : w3.heap.size < w5.heap.size := Nat.lt_of_lt_of_le (by first | assumption | (simp; done) | (simp; omega)) hb5.size
  have z5 : w4.heap.size < w5.heap.size := Nat.lt_of_lt_of_le (by first | assumption | (simp; done) | (simp; omega)) hb5.size
  have W5 := Lib.hid (bt hb5 (bt (below_alloc1 w4 (.cells #[.int .i64 p, .int .i64 q] 23)) W4.out))
  clear hb5
  go_wp2
  go_ret
  exact ⟨rfl, bt (below_alloc1 w5 (.cells #[.int .i64 m, .int .i64 n] 23)) W5.out⟩
set_option maxHeartbeats 2000000 in
set_option maxRecDepth 100000 in
theorem back_n_yes_n (p q r s u v x y x2 y2 m n z z3 : Int) (w : World) (hG : G w) (h1 : Fit p q) (h2 : Fit r s) (h3 : Fit u v)
    (e1 : addR p q r s = (x, y, z)) (e2 : doR 2 p q r s = (x2, y2, 0)) (e3 : addR u v r s = (m, n, z3)) (hz1b : (z == 0) = false) (hr : r ≠ 0) (hrb : (r == 0) = false) (hz3b : (z3 == 0) = false) :
    Calls Tryd.prog 12 #[.agg #[.int .i64 p, .int .i64 q], .agg #[.int .i64 r, .int .i64 s], .agg #[.int .i64 u, .int .i64 v]] w fun e w' => e = .returned (.bool true) ∧ Below w.heap.size w w' := by
  have HG := Lib.hid hG
  clear hG
  have hz1c : (z != 0) = true := by simp only [bne, hz1b, Bool.not_false]
  have hz3c : (z3 != 0) = true := by simp only [bne, hz3b, Bool.not_false]
  have E5 := Lib.hid (mul_div (do_is e2).1 (do_is e2).2 hr e2).2
  have hx2 := fitR (mul_div (do_is e2).1 (do_is e2).2 hr e2).1
  have E1 := Lib.hid e1
  have E2 := Lib.hid e2
  have E3 := Lib.hid e3
  clear e1 e2 e3
  clear hr
  go_enter Tryd.func12, Tryd.ntmps12
  go_wp2_with fail
  refine (Add_any p q r s _ h1 h2).mono ?_
  rintro e w1 ⟨rfl, hb1⟩
  rw [E1.out]
  have a0 := cell_at_below hb1 w.heap.size 0 (.int .i64 p) (by go_simp)
  have a1 := cell_at_below hb1 w.heap.size 1 (.int .i64 q) (by go_simp)
  have b0 := cell_at_below hb1 (w.heap.size + 1) 0 (.int .i64 r) (by go_simp)
  have b1 := cell_at_below hb1 (w.heap.size + 1) 1 (.int .i64 s) (by go_simp)
  have c0 := cell_at_below hb1 (w.heap.size + 1 + 1) 0 (.int .i64 u) (by go_simp)
  have c1 := cell_at_below hb1 (w.heap.size + 1 + 1) 1 (.int .i64 v) (by go_simp)
  have z0 : w.heap.size < w1.heap.size := Nat.lt_of_lt_of_le (by first | assumption | (simp; done) | (simp; omega)) hb1.size
  have z1 : w.heap.size + 1 < w1.heap.size := Nat.lt_of_lt_of_le (by first | assumption | (simp; done) | (simp; omega)) hb1.size
  have z2 : w.heap.size + 1 + 1 < w1.heap.size := Nat.lt_of_lt_of_le (by first | assumption | (simp; done) | (simp; omega)) hb1.size
  have W1 := Lib.hid (bt hb1 ((below_alloc3 w _ _ _)))
  clear hb1
  go_wp2_with fail
  refine (lives_any _ (HG.out.below (bt (below_alloc1 w1 (.cells #[.int .i64 x, .int .i64 y] 23)) W1.out))).mono ?_
  rintro e w2 ⟨rfl, hb2⟩
  have a0 := cell_at_below hb2 w.heap.size 0 (.int .i64 p) (by go_simp)
  have a1 := cell_at_below hb2 w.heap.size 1 (.int .i64 q) (by go_simp)
  have b0 := cell_at_below hb2 (w.heap.size + 1) 0 (.int .i64 r) (by go_simp)
  have b1 := cell_at_below hb2 (w.heap.size + 1) 1 (.int .i64 s) (by go_simp)
  have c0 := cell_at_below hb2 (w.heap.size + 1 + 1) 0 (.int .i64 u) (by go_simp)
  have c1 := cell_at_below hb2 (w.heap.size + 1 + 1) 1 (.int .i64 v) (by go_simp)
  have x0 := cell_at_below hb2 w1.heap.size 0 (.int .i64 x) (by go_simp)
  have x1 := cell_at_below hb2 w1.heap.size 1 (.int .i64 y) (by go_simp)
  have z0 : w.heap.size < w2.heap.size := Nat.lt_of_lt_of_le (by first | assumption | (simp; done) | (simp; omega)) hb2.size
  have z1 : w.heap.size + 1 < w2.heap.size := Nat.lt_of_lt_of_le (by first | assumption | (simp; done) | (simp; omega)) hb2.size
  have z2 : w.heap.size + 1 + 1 < w2.heap.size := Nat.lt_of_lt_of_le (by first | assumption | (simp; done) | (simp; omega)) hb2.size
  have z3 : w1.heap.size < w2.heap.size := Nat.lt_of_lt_of_le (by first | assumption | (simp; done) | (simp; omega)) hb2.size
  have W2 := Lib.hid (bt hb2 (bt (below_alloc1 w1 (.cells #[.int .i64 x, .int .i64 y] 23)) W1.out))
  clear hb2
  go_wp2_with fail
  refine (Mul_any p q r s _ h1 h2).mono ?_
  rintro e w3 ⟨rfl, hb3⟩
  rw [E2.out]
  have a0 := cell_at_below hb3 w.heap.size 0 (.int .i64 p) (by go_simp)
  have a1 := cell_at_below hb3 w.heap.size 1 (.int .i64 q) (by go_simp)
  have b0 := cell_at_below hb3 (w.heap.size + 1) 0 (.int .i64 r) (by go_simp)
  have b1 := cell_at_below hb3 (w.heap.size + 1) 1 (.int .i64 s) (by go_simp)
  have c0 := cell_at_below hb3 (w.heap.size + 1 + 1) 0 (.int .i64 u) (by go_simp)
  have c1 := cell_at_below hb3 (w.heap.size + 1 + 1) 1 (.int .i64 v) (by go_simp)
  have x0 := cell_at_below hb3 w1.heap.size 0 (.int .i64 x) (by go_simp)
  have x1 := cell_at_below hb3 w1.heap.size 1 (.int .i64 y) (by go_simp)
  have z0 : w.heap.size < w3.heap.size := Nat.lt_of_lt_of_le (by first | assumption | (simp; done) | (simp; omega)) hb3.size
  have z1 : w.heap.size + 1 < w3.heap.size := Nat.lt_of_lt_of_le (by first | assumption | (simp; done) | (simp; omega)) hb3.size
  have z2 : w.heap.size + 1 + 1 < w3.heap.size := Nat.lt_of_lt_of_le (by first | assumption | (simp; done) | (simp; omega)) hb3.size
  have z3 : w1.heap.size < w3.heap.size := Nat.lt_of_lt_of_le (by first | assumption | (simp; done) | (simp; omega)) hb3.size
  have W3 := Lib.hid (bt hb3 (W2.out))
  clear hb3
  go_wp2_with fail
  refine (Div_any x2 y2 r s _ hx2 h2).mono ?_
  rintro e w4 ⟨rfl, hb4⟩
  rw [E5.out]
  have a0 := cell_at_below hb4 w.heap.size 0 (.int .i64 p) (by go_simp)
  have a1 := cell_at_below hb4 w.heap.size 1 (.int .i64 q) (by go_simp)
  have b0 := cell_at_below hb4 (w.heap.size + 1) 0 (.int .i64 r) (by go_simp)
  have b1 := cell_at_below hb4 (w.heap.size + 1) 1 (.int .i64 s) (by go_simp)
  have c0 := cell_at_below hb4 (w.heap.size + 1 + 1) 0 (.int .i64 u) (by go_simp)
  have c1 := cell_at_below hb4 (w.heap.size + 1 + 1) 1 (.int .i64 v) (by go_simp)
  have x0 := cell_at_below hb4 w1.heap.size 0 (.int .i64 x) (by go_simp)
  have x1 := cell_at_below hb4 w1.heap.size 1 (.int .i64 y) (by go_simp)
  have m0 := cell_at_below hb4 w3.heap.size 0 (.int .i64 x2) (by go_simp)
  have m1 := cell_at_below hb4 w3.heap.size 1 (.int .i64 y2) (by go_simp)
  have z0 : w.heap.size < w4.heap.size := Nat.lt_of_lt_of_le (by first | assumption | (simp; done) | (simp; omega)) hb4.size
  have z1 : w.heap.size + 1 < w4.heap.size := Nat.lt_of_lt_of_le (by first | assumption | (simp; done) | (simp; omega)) hb4.size
  have z2 : w.heap.size + 1 + 1 < w4.heap.size := Nat.lt_of_lt_of_le (by first | assumption | (simp; done) | (simp; omega)) hb4.size
  have z3 : w1.heap.size < w4.heap.size := Nat.lt_of_lt_of_le (by first | assumption | (simp; done) | (simp; omega)) hb4.size
  have z4 : w3.heap.size < w4.heap.size := Nat.lt_of_lt_of_le (by first | assumption | (simp; done) | (simp; omega)) hb4.size
  have W4 := Lib.hid (bt hb4 (bt (below_alloc1 w3 (.cells #[.int .i64 x2, .int .i64 y2] 23)) W3.out))
  clear hb4
  go_wp2_with fail
  refine (Add_any u v r s _ h3 h2).mono ?_
  rintro e w5 ⟨rfl, hb5⟩
  rw [E3.out]
  have a0 := cell_at_below hb5 w.heap.size 0 (.int .i64 p) (by go_simp)
  have a1 := cell_at_below hb5 w.heap.size 1 (.int .i64 q) (by go_simp)
  have b0 := cell_at_below hb5 (w.heap.size + 1) 0 (.int .i64 r) (by go_simp)
  have b1 := cell_at_below hb5 (w.heap.size + 1) 1 (.int .i64 s) (by go_simp)
  have c0 := cell_at_below hb5 (w.heap.size + 1 + 1) 0 (.int .i64 u) (by go_simp)
  have c1 := cell_at_below hb5 (w.heap.size + 1 + 1) 1 (.int .i64 v) (by go_simp)
  have x0 := cell_at_below hb5 w1.heap.size 0 (.int .i64 x) (by go_simp)
  have x1 := cell_at_below hb5 w1.heap.size 1 (.int .i64 y) (by go_simp)
  have m0 := cell_at_below hb5 w3.heap.size 0 (.int .i64 x2) (by go_simp)
  have m1 := cell_at_below hb5 w3.heap.size 1 (.int .i64 y2) (by go_simp)
  have d0 := cell_at_below hb5 w4.heap.size 0 (.int .i64 p) (by go_simp)
  have d1 := cell_at_below hb5 w4.heap.size 1 (.int .i64 q) (by go_simp)
  have z0 : w.heap.size < w5.heap.size := Nat.lt_of_lt_of_le (by first | assumption | (simp; done) | (simp; omega)) hb5.size
  have z1 : w.heap.size + 1 < w5.heap.size := Nat.lt_of_lt_of_le (by first | assumption | (simp; done) | (simp; omega)) hb5.size
  have z2 : w.heap.size + 1 + 1 < w5.heap.size := Nat.lt_of_lt_of_le (by first | assumption | (simp; done) | (simp; omega)) hb5.size
  have z3 : w1.heap.size < w5.heap.size := Nat.lt_of_lt_of_le (by first | assumption | (simp; done) | (simp; omega)) hb5.size
  have z4 : w3.heap.size < w5.heap.size := Nat.lt_of_lt_of_le (by first | assumption | (simp; done) | (simp; omega)) hb5.size
  have z5 : w4.heap.size < w5.heap.size := Nat.lt_of_lt_of_le (by first | assumption | (simp; done) | (simp; omega)) hb5.size
  have W5 := Lib.hid (bt hb5 (bt (below_alloc1 w4 (.cells #[.int .i64 p, .int .i64 q] 23)) W4.out))
  clear hb5
  go_wp2
  go_ret
  exact ⟨rfl, bt (below_alloc1 w5 (.cells #[.int .i64 m, .int .i64 n] 23)) W5.out⟩
set_option maxHeartbeats 2000000 in
set_option maxRecDepth 100000 in
theorem back_n_no_y (p q r s u v x y x2 y2 m n z z2 : Int) (w : World) (hG : G w) (h1 : Fit p q) (h2 : Fit r s) (h3 : Fit u v)
    (e1 : addR p q r s = (x, y, z)) (e2 : doR 2 p q r s = (x2, y2, z2)) (e3 : addR u v r s = (m, n, 0)) (hz1b : (z == 0) = false) (hz2b : (z2 == 0) = false) :
    Calls Tryd.prog 12 #[.agg #[.int .i64 p, .int .i64 q], .agg #[.int .i64 r, .int .i64 s], .agg #[.int .i64 u, .int .i64 v]] w fun e w' => e = .returned (.bool true) ∧ Below w.heap.size w w' := by
  have HG := Lib.hid hG
  clear hG
  have hz1c : (z != 0) = true := by simp only [bne, hz1b, Bool.not_false]
  have E1 := Lib.hid e1
  have E2 := Lib.hid e2
  have E3 := Lib.hid e3
  clear e1 e2 e3
  go_enter Tryd.func12, Tryd.ntmps12
  go_wp2_with fail
  refine (Add_any p q r s _ h1 h2).mono ?_
  rintro e w1 ⟨rfl, hb1⟩
  rw [E1.out]
  have a0 := cell_at_below hb1 w.heap.size 0 (.int .i64 p) (by go_simp)
  have a1 := cell_at_below hb1 w.heap.size 1 (.int .i64 q) (by go_simp)
  have b0 := cell_at_below hb1 (w.heap.size + 1) 0 (.int .i64 r) (by go_simp)
  have b1 := cell_at_below hb1 (w.heap.size + 1) 1 (.int .i64 s) (by go_simp)
  have c0 := cell_at_below hb1 (w.heap.size + 1 + 1) 0 (.int .i64 u) (by go_simp)
  have c1 := cell_at_below hb1 (w.heap.size + 1 + 1) 1 (.int .i64 v) (by go_simp)
  have z0 : w.heap.size < w1.heap.size := Nat.lt_of_lt_of_le (by first | assumption | (simp; done) | (simp; omega)) hb1.size
  have z1 : w.heap.size + 1 < w1.heap.size := Nat.lt_of_lt_of_le (by first | assumption | (simp; done) | (simp; omega)) hb1.size
  have z2 : w.heap.size + 1 + 1 < w1.heap.size := Nat.lt_of_lt_of_le (by first | assumption | (simp; done) | (simp; omega)) hb1.size
  have W1 := Lib.hid (bt hb1 ((below_alloc3 w _ _ _)))
  clear hb1
  go_wp2_with fail
  refine (lives_any _ (HG.out.below (bt (below_alloc1 w1 (.cells #[.int .i64 x, .int .i64 y] 23)) W1.out))).mono ?_
  rintro e w2 ⟨rfl, hb2⟩
  have a0 := cell_at_below hb2 w.heap.size 0 (.int .i64 p) (by go_simp)
  have a1 := cell_at_below hb2 w.heap.size 1 (.int .i64 q) (by go_simp)
  have b0 := cell_at_below hb2 (w.heap.size + 1) 0 (.int .i64 r) (by go_simp)
  have b1 := cell_at_below hb2 (w.heap.size + 1) 1 (.int .i64 s) (by go_simp)
  have c0 := cell_at_below hb2 (w.heap.size + 1 + 1) 0 (.int .i64 u) (by go_simp)
  have c1 := cell_at_below hb2 (w.heap.size + 1 + 1) 1 (.int .i64 v) (by go_simp)
  have x0 := cell_at_below hb2 w1.heap.size 0 (.int .i64 x) (by go_simp)
  have x1 := cell_at_below hb2 w1.heap.size 1 (.int .i64 y) (by go_simp)
  have z0 : w.heap.size < w2.heap.size := Nat.lt_of_lt_of_le (by first | assumption | (simp; done) | (simp; omega)) hb2.size
  have z1 : w.heap.size + 1 < w2.heap.size := Nat.lt_of_lt_of_le (by first | assumption | (simp; done) | (simp; omega)) hb2.size
  have z2 : w.heap.size + 1 + 1 < w2.heap.size := Nat.lt_of_lt_of_le (by first | assumption | (simp; done) | (simp; omega)) hb2.size
  have z3 : w1.heap.size < w2.heap.size := Nat.lt_of_lt_of_le (by first | assumption | (simp; done) | (simp; omega)) hb2.size
  have W2 := Lib.hid (bt hb2 (bt (below_alloc1 w1 (.cells #[.int .i64 x, .int .i64 y] 23)) W1.out))
  clear hb2
  go_wp2_with fail
  refine (Mul_any p q r s _ h1 h2).mono ?_
  rintro e w3 ⟨rfl, hb3⟩
  rw [E2.out]
  have a0 := cell_at_below hb3 w.heap.size 0 (.int .i64 p) (by go_simp)
  have a1 := cell_at_below hb3 w.heap.size 1 (.int .i64 q) (by go_simp)
  have b0 := cell_at_below hb3 (w.heap.size + 1) 0 (.int .i64 r) (by go_simp)
  have b1 := cell_at_below hb3 (w.heap.size + 1) 1 (.int .i64 s) (by go_simp)
  have c0 := cell_at_below hb3 (w.heap.size + 1 + 1) 0 (.int .i64 u) (by go_simp)
  have c1 := cell_at_below hb3 (w.heap.size + 1 + 1) 1 (.int .i64 v) (by go_simp)
  have x0 := cell_at_below hb3 w1.heap.size 0 (.int .i64 x) (by go_simp)
  have x1 := cell_at_below hb3 w1.heap.size 1 (.int .i64 y) (by go_simp)
  have z0 : w.heap.size < w3.heap.size := Nat.lt_of_lt_of_le (by first | assumption | (simp; done) | (simp; omega)) hb3.size
  have z1 : w.heap.size + 1 < w3.heap.size := Nat.lt_of_lt_of_le (by first | assumption | (simp; done) | (simp; omega)) hb3.size
  have z2 : w.heap.size + 1 + 1 < w3.heap.size := Nat.lt_of_lt_of_le (by first | assumption | (simp; done) | (simp; omega)) hb3.size
  have z3 : w1.heap.size < w3.heap.size := Nat.lt_of_lt_of_le (by first | assumption | (simp; done) | (simp; omega)) hb3.size
  have W3 := Lib.hid (bt hb3 (W2.out))
  clear hb3
  go_wp2_with fail
  refine (Add_any u v r s _ h3 h2).mono ?_
  rintro e w4 ⟨rfl, hb4⟩
  rw [E3.out]
  have a0 := cell_at_below hb4 w.heap.size 0 (.int .i64 p) (by go_simp)
  have a1 := cell_at_below hb4 w.heap.size 1 (.int .i64 q) (by go_simp)
  have b0 := cell_at_below hb4 (w.heap.size + 1) 0 (.int .i64 r) (by go_simp)
  have b1 := cell_at_below hb4 (w.heap.size + 1) 1 (.int .i64 s) (by go_simp)
  have c0 := cell_at_below hb4 (w.heap.size + 1 + 1) 0 (.int .i64 u) (by go_simp)
  have c1 := cell_at_below hb4 (w.heap.size + 1 + 1) 1 (.int .i64 v) (by go_simp)
  have x0 := cell_at_below hb4 w1.heap.size 0 (.int .i64 x) (by go_simp)
  have x1 := cell_at_below hb4 w1.heap.size 1 (.int .i64 y) (by go_simp)
  have m0 := cell_at_below hb4 w3.heap.size 0 (.int .i64 x2) (by go_simp)
  have m1 := cell_at_below hb4 w3.heap.size 1 (.int .i64 y2) (by go_simp)
  have z0 : w.heap.size < w4.heap.size := Nat.lt_of_lt_of_le (by first | assumption | (simp; done) | (simp; omega)) hb4.size
  have z1 : w.heap.size + 1 < w4.heap.size := Nat.lt_of_lt_of_le (by first | assumption | (simp; done) | (simp; omega)) hb4.size
  have z2 : w.heap.size + 1 + 1 < w4.heap.size := Nat.lt_of_lt_of_le (by first | assumption | (simp; done) | (simp; omega)) hb4.size
  have z3 : w1.heap.size < w4.heap.size := Nat.lt_of_lt_of_le (by first | assumption | (simp; done) | (simp; omega)) hb4.size
  have z4 : w3.heap.size < w4.heap.size := Nat.lt_of_lt_of_le (by first | assumption | (simp; done) | (simp; omega)) hb4.size
  have W4 := Lib.hid (bt hb4 (bt (below_alloc1 w3 (.cells #[.int .i64 x2, .int .i64 y2] 23)) W3.out))
  clear hb4
  go_wp2
  go_ret
  exact ⟨rfl, bt (below_alloc1 w4 (.cells #[.int .i64 m, .int .i64 n] 23)) W4.out⟩
set_option maxHeartbeats 2000000 in
set_option maxRecDepth 100000 in
theorem back_n_no_n (p q r s u v x y x2 y2 m n z z2 z3 : Int) (w : World) (hG : G w) (h1 : Fit p q) (h2 : Fit r s) (h3 : Fit u v)
    (e1 : addR p q r s = (x, y, z)) (e2 : doR 2 p q r s = (x2, y2, z2)) (e3 : addR u v r s = (m, n, z3)) (hz1b : (z == 0) = false) (hz2b : (z2 == 0) = false) (hz3b : (z3 == 0) = false) :
    Calls Tryd.prog 12 #[.agg #[.int .i64 p, .int .i64 q], .agg #[.int .i64 r, .int .i64 s], .agg #[.int .i64 u, .int .i64 v]] w fun e w' => e = .returned (.bool true) ∧ Below w.heap.size w w' := by
  have HG := Lib.hid hG
  clear hG
  have hz1c : (z != 0) = true := by simp only [bne, hz1b, Bool.not_false]
  have hz3c : (z3 != 0) = true := by simp only [bne, hz3b, Bool.not_false]
  have E1 := Lib.hid e1
  have E2 := Lib.hid e2
  have E3 := Lib.hid e3
  clear e1 e2 e3
  go_enter Tryd.func12, Tryd.ntmps12
  go_wp2_with fail
  refine (Add_any p q r s _ h1 h2).mono ?_
  rintro e w1 ⟨rfl, hb1⟩
  rw [E1.out]
  have a0 := cell_at_below hb1 w.heap.size 0 (.int .i64 p) (by go_simp)
  have a1 := cell_at_below hb1 w.heap.size 1 (.int .i64 q) (by go_simp)
  have b0 := cell_at_below hb1 (w.heap.size + 1) 0 (.int .i64 r) (by go_simp)
  have b1 := cell_at_below hb1 (w.heap.size + 1) 1 (.int .i64 s) (by go_simp)
  have c0 := cell_at_below hb1 (w.heap.size + 1 + 1) 0 (.int .i64 u) (by go_simp)
  have c1 := cell_at_below hb1 (w.heap.size + 1 + 1) 1 (.int .i64 v) (by go_simp)
  have z0 : w.heap.size < w1.heap.size := Nat.lt_of_lt_of_le (by first | assumption | (simp; done) | (simp; omega)) hb1.size
  have z1 : w.heap.size + 1 < w1.heap.size := Nat.lt_of_lt_of_le (by first | assumption | (simp; done) | (simp; omega)) hb1.size
  have z2 : w.heap.size + 1 + 1 < w1.heap.size := Nat.lt_of_lt_of_le (by first | assumption | (simp; done) | (simp; omega)) hb1.size
  have W1 := Lib.hid (bt hb1 ((below_alloc3 w _ _ _)))
  clear hb1
  go_wp2_with fail
  refine (lives_any _ (HG.out.below (bt (below_alloc1 w1 (.cells #[.int .i64 x, .int .i64 y] 23)) W1.out))).mono ?_
  rintro e w2 ⟨rfl, hb2⟩
  have a0 := cell_at_below hb2 w.heap.size 0 (.int .i64 p) (by go_simp)
  have a1 := cell_at_below hb2 w.heap.size 1 (.int .i64 q) (by go_simp)
  have b0 := cell_at_below hb2 (w.heap.size + 1) 0 (.int .i64 r) (by go_simp)
  have b1 := cell_at_below hb2 (w.heap.size + 1) 1 (.int .i64 s) (by go_simp)
  have c0 := cell_at_below hb2 (w.heap.size + 1 + 1) 0 (.int .i64 u) (by go_simp)
  have c1 := cell_at_below hb2 (w.heap.size + 1 + 1) 1 (.int .i64 v) (by go_simp)
  have x0 := cell_at_below hb2 w1.heap.size 0 (.int .i64 x) (by go_simp)
  have x1 := cell_at_below hb2 w1.heap.size 1 (.int .i64 y) (by go_simp)
  have z0 : w.heap.size < w2.heap.size := Nat.lt_of_lt_of_le (by first | assumption | (simp; done) | (simp; omega)) hb2.size
  have z1 : w.heap.size + 1 < w2.heap.size := Nat.lt_of_lt_of_le (by first | assumption | (simp; done) | (simp; omega)) hb2.size
  have z2 : w.heap.size + 1 + 1 < w2.heap.size := Nat.lt_of_lt_of_le (by first | assumption | (simp; done) | (simp; omega)) hb2.size
  have z3 : w1.heap.size < w2.heap.size := Nat.lt_of_lt_of_le (by first | assumption | (simp; done) | (simp; omega)) hb2.size
  have W2 := Lib.hid (bt hb2 (bt (below_alloc1 w1 (.cells #[.int .i64 x, .int .i64 y] 23)) W1.out))
  clear hb2
  go_wp2_with fail
  refine (Mul_any p q r s _ h1 h2).mono ?_
  rintro e w3 ⟨rfl, hb3⟩
  rw [E2.out]
  have a0 := cell_at_below hb3 w.heap.size 0 (.int .i64 p) (by go_simp)
  have a1 := cell_at_below hb3 w.heap.size 1 (.int .i64 q) (by go_simp)
  have b0 := cell_at_below hb3 (w.heap.size + 1) 0 (.int .i64 r) (by go_simp)
  have b1 := cell_at_below hb3 (w.heap.size + 1) 1 (.int .i64 s) (by go_simp)
  have c0 := cell_at_below hb3 (w.heap.size + 1 + 1) 0 (.int .i64 u) (by go_simp)
  have c1 := cell_at_below hb3 (w.heap.size + 1 + 1) 1 (.int .i64 v) (by go_simp)
  have x0 := cell_at_below hb3 w1.heap.size 0 (.int .i64 x) (by go_simp)
  have x1 := cell_at_below hb3 w1.heap.size 1 (.int .i64 y) (by go_simp)
  have z0 : w.heap.size < w3.heap.size := Nat.lt_of_lt_of_le (by first | assumption | (simp; done) | (simp; omega)) hb3.size
  have z1 : w.heap.size + 1 < w3.heap.size := Nat.lt_of_lt_of_le (by first | assumption | (simp; done) | (simp; omega)) hb3.size
  have z2 : w.heap.size + 1 + 1 < w3.heap.size := Nat.lt_of_lt_of_le (by first | assumption | (simp; done) | (simp; omega)) hb3.size
  have z3 : w1.heap.size < w3.heap.size := Nat.lt_of_lt_of_le (by first | assumption | (simp; done) | (simp; omega)) hb3.size
  have W3 := Lib.hid (bt hb3 (W2.out))
  clear hb3
  go_wp2_with fail
  refine (Add_any u v r s _ h3 h2).mono ?_
  rintro e w4 ⟨rfl, hb4⟩
  rw [E3.out]
  have a0 := cell_at_below hb4 w.heap.size 0 (.int .i64 p) (by go_simp)
  have a1 := cell_at_below hb4 w.heap.size 1 (.int .i64 q) (by go_simp)
  have b0 := cell_at_below hb4 (w.heap.size + 1) 0 (.int .i64 r) (by go_simp)
  have b1 := cell_at_below hb4 (w.heap.size + 1) 1 (.int .i64 s) (by go_simp)
  have c0 := cell_at_below hb4 (w.heap.size + 1 + 1) 0 (.int .i64 u) (by go_simp)
  have c1 := cell_at_below hb4 (w.heap.size + 1 + 1) 1 (.int .i64 v) (by go_simp)
  have x0 := cell_at_below hb4 w1.heap.size 0 (.int .i64 x) (by go_simp)
  have x1 := cell_at_below hb4 w1.heap.size 1 (.int .i64 y) (by go_simp)
  have m0 := cell_at_below hb4 w3.heap.size 0 (.int .i64 x2) (by go_simp)
  have m1 := cell_at_below hb4 w3.heap.size 1 (.int .i64 y2) (by go_simp)
  have z0 : w.heap.size < w4.heap.size := Nat.lt_of_lt_of_le (by first | assumption | (simp; done) | (simp; omega)) hb4.size
  have z1 : w.heap.size + 1 < w4.heap.size := Nat.lt_of_lt_of_le (by first | assumption | (simp; done) | (simp; omega)) hb4.size
  have z2 : w.heap.size + 1 + 1 < w4.heap.size := Nat.lt_of_lt_of_le (by first | assumption | (simp; done) | (simp; omega)) hb4.size
  have z3 : w1.heap.size < w4.heap.size := Nat.lt_of_lt_of_le (by first | assumption | (simp; done) | (simp; omega)) hb4.size
  have z4 : w3.heap.size < w4.heap.size := Nat.lt_of_lt_of_le (by first | assumption | (simp; done) | (simp; omega)) hb4.size
  have W4 := Lib.hid (bt hb4 (bt (below_alloc1 w3 (.cells #[.int .i64 x2, .int .i64 y2] 23)) W3.out))
  clear hb4
  go_wp2
  go_ret
  exact ⟨rfl, bt (below_alloc1 w4 (.cells #[.int .i64 m, .int .i64 n] 23)) W4.out⟩
theorem RatioBack_any (p q r s u v : Int) (w : World) (hG : G w) (h1 : Fit p q) (h2 : Fit r s) (h3 : Fit u v) :
    Calls Tryd.prog 12 #[.agg #[.int .i64 p, .int .i64 q], .agg #[.int .i64 r, .int .i64 s], .agg #[.int .i64 u, .int .i64 v]] w fun e w' => e = .returned (.bool true) ∧ Below w.heap.size w w' := by
  obtain ⟨x, y, z, e1⟩ : ∃ x y z, addR p q r s = (x, y, z) := ⟨_, _, _, rfl⟩
  obtain ⟨x2, y2, z2, e2⟩ : ∃ x y z, doR 2 p q r s = (x, y, z) := ⟨_, _, _, rfl⟩
  obtain ⟨m, n, z3, e3⟩ : ∃ x y z, addR u v r s = (x, y, z) := ⟨_, _, _, rfl⟩
  by_cases hz1 : z = 0 <;> by_cases hz2 : z2 = 0 <;> by_cases hr : r = 0 <;> by_cases hz3 : z3 = 0 <;> (try subst hz1) <;> (try subst hz2) <;> (try subst hz3)
  · exact back_y_zero_y _ _ _ _ _ _ _ _ _ _ _ _ w hG h1 h2 h3 e1 e2 e3 (by simpa using hr)
  · exact back_y_zero_n _ _ _ _ _ _ _ _ _ _ _ _ _ w hG h1 h2 h3 e1 e2 e3 (by simpa using hr) (by simpa using hz3)
  · exact back_y_yes_y _ _ _ _ _ _ _ _ _ _ _ _ w hG h1 h2 h3 e1 e2 e3 hr (by simpa using hr)
  · exact back_y_yes_n _ _ _ _ _ _ _ _ _ _ _ _ _ w hG h1 h2 h3 e1 e2 e3 hr (by simpa using hr) (by simpa using hz3)
  · exact back_y_no_y _ _ _ _ _ _ _ _ _ _ _ _ _ w hG h1 h2 h3 e1 e2 e3 (by simpa using hz2)
  · exact back_y_no_n _ _ _ _ _ _ _ _ _ _ _ _ _ _ w hG h1 h2 h3 e1 e2 e3 (by simpa using hz2) (by simpa using hz3)
  · exact back_y_no_y _ _ _ _ _ _ _ _ _ _ _ _ _ w hG h1 h2 h3 e1 e2 e3 (by simpa using hz2)
  · exact back_y_no_n _ _ _ _ _ _ _ _ _ _ _ _ _ _ w hG h1 h2 h3 e1 e2 e3 (by simpa using hz2) (by simpa using hz3)
  · exact back_n_zero_y _ _ _ _ _ _ _ _ _ _ _ _ _ w hG h1 h2 h3 e1 e2 e3 (by simpa using hz1) (by simpa using hr)
  · exact back_n_zero_n _ _ _ _ _ _ _ _ _ _ _ _ _ _ w hG h1 h2 h3 e1 e2 e3 (by simpa using hz1) (by simpa using hr) (by simpa using hz3)
  · exact back_n_yes_y _ _ _ _ _ _ _ _ _ _ _ _ _ w hG h1 h2 h3 e1 e2 e3 (by simpa using hz1) hr (by simpa using hr)
  · exact back_n_yes_n _ _ _ _ _ _ _ _ _ _ _ _ _ _ w hG h1 h2 h3 e1 e2 e3 (by simpa using hz1) hr (by simpa using hr) (by simpa using hz3)
  · exact back_n_no_y _ _ _ _ _ _ _ _ _ _ _ _ _ _ w hG h1 h2 h3 e1 e2 e3 (by simpa using hz1) (by simpa using hz2)
  · exact back_n_no_n _ _ _ _ _ _ _ _ _ _ _ _ _ _ _ w hG h1 h2 h3 e1 e2 e3 (by simpa using hz1) (by simpa using hz2) (by simpa using hz3)
  · exact back_n_no_y _ _ _ _ _ _ _ _ _ _ _ _ _ _ w hG h1 h2 h3 e1 e2 e3 (by simpa using hz1) (by simpa using hz2)
  · exact back_n_no_n _ _ _ _ _ _ _ _ _ _ _ _ _ _ _ w hG h1 h2 h3 e1 e2 e3 (by simpa using hz1) (by simpa using hz2) (by simpa using hz3)
end Go.Proofs.YtdpmijmofeechaaDoor.RatBk
