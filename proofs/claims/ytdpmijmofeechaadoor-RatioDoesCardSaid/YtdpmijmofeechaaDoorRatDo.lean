/- The walk of copselaw03.RatioDoes. -/
import Derived.Test.YtdpmijmofeechaaDoorLivesW
import Derived.Test.YtdpmijmofeechaaDoorRefCmp
namespace Go.Proofs.YtdpmijmofeechaaDoor.RatDo
set_option linter.unusedVariables false
open Go.RowKit Base BigM BigZ GcdM RatM RatW RefRat Glob WideM WideW Rat2 TextW PartW LivesW RefCmp

set_option maxHeartbeats 4000000 in
set_option maxRecDepth 100000 in
theorem RatioDoes_any (p q r s : Int) (w : World) (hG : G w) (h1 : Fit p q) (h2 : Fit r s) :
    Calls Tryd.prog 11 #[.agg #[.int .i64 p, .int .i64 q], .agg #[.int .i64 r, .int .i64 s]] w fun e w' => e = .returned (.bool true) ∧ Below w.heap.size w w' := by
  obtain ⟨x0, y0, z0, e0⟩ : ∃ x y z, doR 0 p q r s = (x, y, z) := ⟨_, _, _, rfl⟩
  obtain ⟨x1, y1, z1, e1⟩ : ∃ x y z, doR 1 p q r s = (x, y, z) := ⟨_, _, _, rfl⟩
  obtain ⟨x2, y2, z2, e2⟩ : ∃ x y z, doR 2 p q r s = (x, y, z) := ⟨_, _, _, rfl⟩
  obtain ⟨x3, y3, z3, e3⟩ : ∃ x y z, doR 3 p q r s = (x, y, z) := ⟨_, _, _, rfl⟩
  have ea : addR p q r s = (x0, y0, z0) := e0
  have EA := Lib.hid ea
  have E0 := Lib.hid e0
  have E1 := Lib.hid e1
  have E2 := Lib.hid e2
  have E3 := Lib.hid e3
  obtain ⟨c, ec⟩ : ∃ c, cmpV p q r s = c := ⟨_, rfl⟩
  obtain ⟨d, ed⟩ : ∃ d, bothE p q r s = d := ⟨_, rfl⟩
  have EC := Lib.hid ec
  have ED := Lib.hid ed
  have HG := Lib.hid hG
  clear e0 e1 e2 e3 ea ec ed hG
  go_enter Tryd.func11, Tryd.ntmps11
  go_wp2_with fail
  refine (Add_any p q r s _ h1 h2).mono ?_
  rintro e w1 ⟨rfl, hb1⟩
  rw [EA.out]
  have c0 := cell_at_below hb1 w.heap.size 0 (.int .i64 p) (by go_simp)
  have c1 := cell_at_below hb1 w.heap.size 1 (.int .i64 q) (by go_simp)
  have d0 := cell_at_below hb1 (w.heap.size + 1) 0 (.int .i64 r) (by go_simp)
  have d1 := cell_at_below hb1 (w.heap.size + 1) 1 (.int .i64 s) (by go_simp)
  have hA := below_alloc1 w1 (.cells #[.int .i64 x0, .int .i64 y0] 23)
  have s1 : w.heap.size + 1 < w1.heap.size := Nat.lt_of_lt_of_le (by simp) hb1.size
  have c0 := cell_at_below hA _ _ _ c0
  have c1 := cell_at_below hA _ _ _ c1
  have d0 := cell_at_below hA _ _ _ d0
  have d1 := cell_at_below hA _ _ _ d1
  have W1 := Lib.hid (bt hA (bt hb1 (below_alloc2 w _ _)))
  clear hb1 hA
  go_wp2_with fail
  refine (Do_any 0 p q r s _ (by omega) h1 h2).mono ?_
  rintro e w2 ⟨rfl, hb2⟩
  rw [E0.out]
  obtain ⟨a0, a1, f0, f1, z_2⟩ := keepA hb2
  have s2 : w1.heap.size < w2.heap.size := z_2
  have hA := below_alloc1 w2 (.cells #[.int .i64 x0, .int .i64 y0] 23)
  have c0 := cell_at_below hb2 _ _ _ c0
  have c1 := cell_at_below hb2 _ _ _ c1
  have d0 := cell_at_below hb2 _ _ _ d0
  have d1 := cell_at_below hb2 _ _ _ d1
  have c0 := cell_at_below hA _ _ _ c0
  have c1 := cell_at_below hA _ _ _ c1
  have d0 := cell_at_below hA _ _ _ d0
  have d1 := cell_at_below hA _ _ _ d1
  have n1 : ¬ w.heap.size = w1.heap.size := by omega
  have n2 : ¬ w.heap.size = w2.heap.size := by omega
  have n3 : ¬ w.heap.size + 1 = w1.heap.size := by omega
  have n4 : ¬ w.heap.size + 1 = w2.heap.size := by omega
  have n5 : ¬ w1.heap.size = w2.heap.size := by omega
  have n6 : ¬ w1.heap.size = w.heap.size := by omega
  have n7 : ¬ w2.heap.size = w.heap.size := by omega
  have n8 : ¬ w1.heap.size = w.heap.size + 1 := by omega
  have n9 : ¬ w2.heap.size = w.heap.size + 1 := by omega
  have n10 : ¬ w2.heap.size = w1.heap.size := by omega
  have a0 := cell_at_below hA _ _ _ a0
  have a1 := cell_at_below hA _ _ _ a1
  have f0 := free_at_below hA _ _ f0 s2
  have f1 := free_at_below hA _ _ f1 s2
  have W2 := Lib.hid (bt hA (bt hb2 W1.out))
  clear hb2 hA W1
  go_wp2_with fail
  refine (lives_any _ (HG.out.below W2.out)).mono ?_
  rintro e w3 ⟨rfl, hb3⟩
  have c0 := cell_at_below hb3 w.heap.size 0 (.int .i64 p) (by go_simp)
  have c1 := cell_at_below hb3 w.heap.size 1 (.int .i64 q) (by go_simp)
  have d0 := cell_at_below hb3 (w.heap.size + 1) 0 (.int .i64 r) (by go_simp)
  have d1 := cell_at_below hb3 (w.heap.size + 1) 1 (.int .i64 s) (by go_simp)
  have a0 := cell_at_below hb3 w1.heap.size 0 (.int .i64 x0) (by go_simp)
  have a1 := cell_at_below hb3 w1.heap.size 1 (.int .i64 y0) (by go_simp)
  have b0 := cell_at_below hb3 w2.heap.size 0 (.int .i64 x0) (by go_simp)
  have b1 := cell_at_below hb3 w2.heap.size 1 (.int .i64 y0) (by go_simp)
  have fa0 := free_at_below hb3 w1.heap.size 0 (by go_simp) (by go_simp)
  have fa1 := free_at_below hb3 w1.heap.size 1 (by go_simp) (by go_simp)
  have fb0 := free_at_below hb3 w2.heap.size 0 (by go_simp) (by go_simp)
  have fb1 := free_at_below hb3 w2.heap.size 1 (by go_simp) (by go_simp)
  have q1 : w1.heap.size < w3.heap.size := Nat.lt_of_lt_of_le (by simp; omega) hb3.size
  have q2 : w2.heap.size < w3.heap.size := Nat.lt_of_lt_of_le (by simp) hb3.size
  have W3 := Lib.hid (bt hb3 W2.out)
  clear hb3 W2
  go_wp2_with fail
  refine (Sub_any p q r s _ h1 h2).mono ?_
  rintro e w4 ⟨rfl, hb4⟩
  rw [E1.out]
  have c0 := cell_at_below hb4 w.heap.size 0 (.int .i64 p) (by go_simp)
  have c1 := cell_at_below hb4 w.heap.size 1 (.int .i64 q) (by go_simp)
  have d0 := cell_at_below hb4 (w.heap.size + 1) 0 (.int .i64 r) (by go_simp)
  have d1 := cell_at_below hb4 (w.heap.size + 1) 1 (.int .i64 s) (by go_simp)
  have a0 := cell_at_below hb4 w1.heap.size 0 (.int .i64 x0) (by go_simp)
  have a1 := cell_at_below hb4 w1.heap.size 1 (.int .i64 y0) (by go_simp)
  have b0 := cell_at_below hb4 w2.heap.size 0 (.int .i64 x0) (by go_simp)
  have b1 := cell_at_below hb4 w2.heap.size 1 (.int .i64 y0) (by go_simp)
  have fa0 := free_at_below hb4 w1.heap.size 0 (by go_simp) (by go_simp)
  have fa1 := free_at_below hb4 w1.heap.size 1 (by go_simp) (by go_simp)
  have fb0 := free_at_below hb4 w2.heap.size 0 (by go_simp) (by go_simp)
  have fb1 := free_at_below hb4 w2.heap.size 1 (by go_simp) (by go_simp)
  have q1 : w1.heap.size < w4.heap.size := Nat.lt_of_lt_of_le (by first | assumption | (simp; omega)) hb4.size
  have q2 : w2.heap.size < w4.heap.size := Nat.lt_of_lt_of_le (by first | assumption | (simp; omega)) hb4.size
  have W4 := Lib.hid (bt hb4 (W3.out))
  clear hb4
  have V4 : Below w.heap.size w ((w4.setCell ⟨w1.heap.size, 0, none⟩ (.int .i64 x1)).setCell ⟨w1.heap.size, 1, none⟩ (.int .i64 y1)) := (W4.out.setCell (by show w.heap.size ≤ w1.heap.size; omega) _).setCell (by show w.heap.size ≤ w1.heap.size; omega) _
  have V4 := Lib.hid V4
  go_wp2_with fail
  refine (Do_any 1 p q r s _ (by omega) h1 h2).mono ?_
  rintro e w5 ⟨rfl, hb5⟩
  rw [E1.out]
  have c0 := cell_at_below hb5 w.heap.size 0 (.int .i64 p) (by go_simp)
  have c1 := cell_at_below hb5 w.heap.size 1 (.int .i64 q) (by go_simp)
  have d0 := cell_at_below hb5 (w.heap.size + 1) 0 (.int .i64 r) (by go_simp)
  have d1 := cell_at_below hb5 (w.heap.size + 1) 1 (.int .i64 s) (by go_simp)
  have a0 := cell_at_below hb5 w1.heap.size 0 (.int .i64 x1) (by go_simp)
  have a1 := cell_at_below hb5 w1.heap.size 1 (.int .i64 y1) (by go_simp)
  have b0 := cell_at_below hb5 w2.heap.size 0 (.int .i64 x0) (by go_simp)
  have b1 := cell_at_below hb5 w2.heap.size 1 (.int .i64 y0) (by go_simp)
  have fa0 := free_at_below hb5 w1.heap.size 0 (by go_simp) (by go_simp)
  have fa1 := free_at_below hb5 w1.heap.size 1 (by go_simp) (by go_simp)
  have fb0 := free_at_below hb5 w2.heap.size 0 (by go_simp) (by go_simp)
  have fb1 := free_at_below hb5 w2.heap.size 1 (by go_simp) (by go_simp)
  have q1 : w1.heap.size < w5.heap.size := Nat.lt_of_lt_of_le (by first | assumption | (simp; omega)) hb5.size
  have q2 : w2.heap.size < w5.heap.size := Nat.lt_of_lt_of_le (by first | assumption | (simp; omega)) hb5.size
  have W5 := Lib.hid (bt hb5 V4.out)
  clear hb5 V4 W4
  have V5 : Below w.heap.size w ((w5.setCell ⟨w2.heap.size, 0, none⟩ (.int .i64 x1)).setCell ⟨w2.heap.size, 1, none⟩ (.int .i64 y1)) := (W5.out.setCell (by show w.heap.size ≤ w2.heap.size; omega) _).setCell (by show w.heap.size ≤ w2.heap.size; omega) _
  have V5 := Lib.hid V5
  go_wp2_with fail
  refine (Mul_any p q r s _ h1 h2).mono ?_
  rintro e w6 ⟨rfl, hb6⟩
  rw [E2.out]
  have c0 := cell_at_below hb6 w.heap.size 0 (.int .i64 p) (by go_simp)
  have c1 := cell_at_below hb6 w.heap.size 1 (.int .i64 q) (by go_simp)
  have d0 := cell_at_below hb6 (w.heap.size + 1) 0 (.int .i64 r) (by go_simp)
  have d1 := cell_at_below hb6 (w.heap.size + 1) 1 (.int .i64 s) (by go_simp)
  have a0 := cell_at_below hb6 w1.heap.size 0 (.int .i64 x1) (by go_simp)
  have a1 := cell_at_below hb6 w1.heap.size 1 (.int .i64 y1) (by go_simp)
  have b0 := cell_at_below hb6 w2.heap.size 0 (.int .i64 x1) (by go_simp)
  have b1 := cell_at_below hb6 w2.heap.size 1 (.int .i64 y1) (by go_simp)
  have fa0 := free_at_below hb6 w1.heap.size 0 (by go_simp) (by go_simp)
  have fa1 := free_at_below hb6 w1.heap.size 1 (by go_simp) (by go_simp)
  have fb0 := free_at_below hb6 w2.heap.size 0 (by go_simp) (by go_simp)
  have fb1 := free_at_below hb6 w2.heap.size 1 (by go_simp) (by go_simp)
  have q1 : w1.heap.size < w6.heap.size := Nat.lt_of_lt_of_le (by first | assumption | (simp; omega)) hb6.size
  have q2 : w2.heap.size < w6.heap.size := Nat.lt_of_lt_of_le (by first | assumption | (simp; omega)) hb6.size
  have W6 := Lib.hid (bt hb6 (V5.out))
  clear hb6
  have V6 : Below w.heap.size w ((w6.setCell ⟨w1.heap.size, 0, none⟩ (.int .i64 x2)).setCell ⟨w1.heap.size, 1, none⟩ (.int .i64 y2)) := (W6.out.setCell (by show w.heap.size ≤ w1.heap.size; omega) _).setCell (by show w.heap.size ≤ w1.heap.size; omega) _
  have V6 := Lib.hid V6
  go_wp2_with fail
  refine (Do_any 2 p q r s _ (by omega) h1 h2).mono ?_
  rintro e w7 ⟨rfl, hb7⟩
  rw [E2.out]
  have c0 := cell_at_below hb7 w.heap.size 0 (.int .i64 p) (by go_simp)
  have c1 := cell_at_below hb7 w.heap.size 1 (.int .i64 q) (by go_simp)
  have d0 := cell_at_below hb7 (w.heap.size + 1) 0 (.int .i64 r) (by go_simp)
  have d1 := cell_at_below hb7 (w.heap.size + 1) 1 (.int .i64 s) (by go_simp)
  have a0 := cell_at_below hb7 w1.heap.size 0 (.int .i64 x2) (by go_simp)
  have a1 := cell_at_below hb7 w1.heap.size 1 (.int .i64 y2) (by go_simp)
  have b0 := cell_at_below hb7 w2.heap.size 0 (.int .i64 x1) (by go_simp)
  have b1 := cell_at_below hb7 w2.heap.size 1 (.int .i64 y1) (by go_simp)
  have fa0 := free_at_below hb7 w1.heap.size 0 (by go_simp) (by go_simp)
  have fa1 := free_at_below hb7 w1.heap.size 1 (by go_simp) (by go_simp)
  have fb0 := free_at_below hb7 w2.heap.size 0 (by go_simp) (by go_simp)
  have fb1 := free_at_below hb7 w2.heap.size 1 (by go_simp) (by go_simp)
  have q1 : w1.heap.size < w7.heap.size := Nat.lt_of_lt_of_le (by first | assumption | (simp; omega)) hb7.size
  have q2 : w2.heap.size < w7.heap.size := Nat.lt_of_lt_of_le (by first | assumption | (simp; omega)) hb7.size
  have W7 := Lib.hid (bt hb7 V6.out)
  clear hb7 V6 W6
  have V7 : Below w.heap.size w ((w7.setCell ⟨w2.heap.size, 0, none⟩ (.int .i64 x2)).setCell ⟨w2.heap.size, 1, none⟩ (.int .i64 y2)) := (W7.out.setCell (by show w.heap.size ≤ w2.heap.size; omega) _).setCell (by show w.heap.size ≤ w2.heap.size; omega) _
  have V7 := Lib.hid V7
  go_wp2_with fail
  refine (Div_any p q r s _ h1 h2).mono ?_
  rintro e w8 ⟨rfl, hb8⟩
  rw [E3.out]
  have c0 := cell_at_below hb8 w.heap.size 0 (.int .i64 p) (by go_simp)
  have c1 := cell_at_below hb8 w.heap.size 1 (.int .i64 q) (by go_simp)
  have d0 := cell_at_below hb8 (w.heap.size + 1) 0 (.int .i64 r) (by go_simp)
  have d1 := cell_at_below hb8 (w.heap.size + 1) 1 (.int .i64 s) (by go_simp)
  have a0 := cell_at_below hb8 w1.heap.size 0 (.int .i64 x2) (by go_simp)
  have a1 := cell_at_below hb8 w1.heap.size 1 (.int .i64 y2) (by go_simp)
  have b0 := cell_at_below hb8 w2.heap.size 0 (.int .i64 x2) (by go_simp)
  have b1 := cell_at_below hb8 w2.heap.size 1 (.int .i64 y2) (by go_simp)
  have fa0 := free_at_below hb8 w1.heap.size 0 (by go_simp) (by go_simp)
  have fa1 := free_at_below hb8 w1.heap.size 1 (by go_simp) (by go_simp)
  have fb0 := free_at_below hb8 w2.heap.size 0 (by go_simp) (by go_simp)
  have fb1 := free_at_below hb8 w2.heap.size 1 (by go_simp) (by go_simp)
  have q1 : w1.heap.size < w8.heap.size := Nat.lt_of_lt_of_le (by first | assumption | (simp; omega)) hb8.size
  have q2 : w2.heap.size < w8.heap.size := Nat.lt_of_lt_of_le (by first | assumption | (simp; omega)) hb8.size
  have W8 := Lib.hid (bt hb8 (V7.out))
  clear hb8
  have V8 : Below w.heap.size w ((w8.setCell ⟨w1.heap.size, 0, none⟩ (.int .i64 x3)).setCell ⟨w1.heap.size, 1, none⟩ (.int .i64 y3)) := (W8.out.setCell (by show w.heap.size ≤ w1.heap.size; omega) _).setCell (by show w.heap.size ≤ w1.heap.size; omega) _
  have V8 := Lib.hid V8
  go_wp2_with fail
  refine (Do_any 3 p q r s _ (by omega) h1 h2).mono ?_
  rintro e w9 ⟨rfl, hb9⟩
  rw [E3.out]
  have c0 := cell_at_below hb9 w.heap.size 0 (.int .i64 p) (by go_simp)
  have c1 := cell_at_below hb9 w.heap.size 1 (.int .i64 q) (by go_simp)
  have d0 := cell_at_below hb9 (w.heap.size + 1) 0 (.int .i64 r) (by go_simp)
  have d1 := cell_at_below hb9 (w.heap.size + 1) 1 (.int .i64 s) (by go_simp)
  have a0 := cell_at_below hb9 w1.heap.size 0 (.int .i64 x3) (by go_simp)
  have a1 := cell_at_below hb9 w1.heap.size 1 (.int .i64 y3) (by go_simp)
  have b0 := cell_at_below hb9 w2.heap.size 0 (.int .i64 x2) (by go_simp)
  have b1 := cell_at_below hb9 w2.heap.size 1 (.int .i64 y2) (by go_simp)
  have fa0 := free_at_below hb9 w1.heap.size 0 (by go_simp) (by go_simp)
  have fa1 := free_at_below hb9 w1.heap.size 1 (by go_simp) (by go_simp)
  have fb0 := free_at_below hb9 w2.heap.size 0 (by go_simp) (by go_simp)
  have fb1 := free_at_below hb9 w2.heap.size 1 (by go_simp) (by go_simp)
  have q1 : w1.heap.size < w9.heap.size := Nat.lt_of_lt_of_le (by first | assumption | (simp; omega)) hb9.size
  have q2 : w2.heap.size < w9.heap.size := Nat.lt_of_lt_of_le (by first | assumption | (simp; omega)) hb9.size
  have W9 := Lib.hid (bt hb9 V8.out)
  clear hb9 V8 W8
  have V9 : Below w.heap.size w ((w9.setCell ⟨w2.heap.size, 0, none⟩ (.int .i64 x3)).setCell ⟨w2.heap.size, 1, none⟩ (.int .i64 y3)) := (W9.out.setCell (by show w.heap.size ≤ w2.heap.size; omega) _).setCell (by show w.heap.size ≤ w2.heap.size; omega) _
  have V9 := Lib.hid V9
  go_wp2_with fail
  refine (Cmp_any p q r s _ h1 h2).mono ?_
  rintro e w10 ⟨rfl, hb10⟩
  rw [EC.out, ED.out]
  have c0 := cell_at_below hb10 w.heap.size 0 (.int .i64 p) (by go_simp)
  have c1 := cell_at_below hb10 w.heap.size 1 (.int .i64 q) (by go_simp)
  have d0 := cell_at_below hb10 (w.heap.size + 1) 0 (.int .i64 r) (by go_simp)
  have d1 := cell_at_below hb10 (w.heap.size + 1) 1 (.int .i64 s) (by go_simp)
  have a0 := cell_at_below hb10 w1.heap.size 0 (.int .i64 x3) (by go_simp)
  have a1 := cell_at_below hb10 w1.heap.size 1 (.int .i64 y3) (by go_simp)
  have b0 := cell_at_below hb10 w2.heap.size 0 (.int .i64 x3) (by go_simp)
  have b1 := cell_at_below hb10 w2.heap.size 1 (.int .i64 y3) (by go_simp)
  have fa0 := free_at_below hb10 w1.heap.size 0 (by go_simp) (by go_simp)
  have fa1 := free_at_below hb10 w1.heap.size 1 (by go_simp) (by go_simp)
  have fb0 := free_at_below hb10 w2.heap.size 0 (by go_simp) (by go_simp)
  have fb1 := free_at_below hb10 w2.heap.size 1 (by go_simp) (by go_simp)
  have W10 := Lib.hid (bt hb10 (V9.out))
  clear hb10
  go_wp2_with fail
  refine (RCmp_any p q r s _ h1 h2).mono ?_
  rintro e w11 ⟨rfl, hb11⟩
  rw [EC.out, ED.out]
  go_wp2
  go_ret
  exact ⟨rfl, bt hb11 W10.out⟩
end Go.Proofs.YtdpmijmofeechaaDoor.RatDo
