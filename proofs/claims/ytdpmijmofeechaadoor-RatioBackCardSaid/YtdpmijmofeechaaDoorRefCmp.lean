/- The walk of copseref03.Cmp. -/
import Derived.Test.YtdpmijmofeechaaDoorPartW
namespace Go.Proofs.YtdpmijmofeechaaDoor.RefCmp
set_option linter.unusedVariables false
open Go.RowKit Base BigM BigZ GcdM RatM RatW RefRat Glob WideM WideW Rat2 TextW PartW

theorem cmp_no {p q r s : Int} (h : (isR p q && isR r s) = false) : cmpV p q r s = 0 ∧ bothE p q r s = 30 := by
  unfold cmpV bothE; rw [h]; exact ⟨rfl, rfl⟩
theorem cmp_yes {p q r s : Int} (h : (isR p q && isR r s) = true) : cmpV p q r s = ord (p * s) (r * q) ∧ bothE p q r s = 0 := by
  unfold cmpV bothE; rw [h]; exact ⟨rfl, rfl⟩
set_option maxHeartbeats 2000000 in
theorem RCmp_any (p q r s : Int) (w : World) (h1 : Fit p q) (h2 : Fit r s) :
    Calls Tryd.prog 50 #[.agg #[.int .i64 p, .int .i64 q], .agg #[.int .i64 r, .int .i64 s]] w fun e w' => e = .returned (.tuple #[.int .i64 (cmpV p q r s), .int .i64 (bothE p q r s)]) ∧ Below w.heap.size w w' := by
  cases ha : isR p q
  · have F := Lib.hid (cmp_no (r := r) (s := s) (show (isR p q && isR r s) = false by rw [ha]; rfl))
    go_enter Tryd.func50, Tryd.ntmps50
    go_wp2_with fail
    refine (RIs_any p q _ h1).mono ?_
    rintro e w1 ⟨rfl, hb1⟩
    go_wp2
    refine bodyPost_ret (v := .tuple #[.int .i64 0, .int .i64 30]) (by simp [results, Tryd.results50, go_sem]) rfl ?_
    exact ⟨ret_int2 F.out.1.symm F.out.2.symm, bt hb1 (below_alloc2 _ _ _)⟩
  · cases hc : isR r s
    · have F := Lib.hid (cmp_no (show (isR p q && isR r s) = false by rw [ha, hc]; rfl))
      go_enter Tryd.func50, Tryd.ntmps50
      go_wp2_with fail
      refine (RIs_any p q _ h1).mono ?_
      rintro e w1 ⟨rfl, hb1⟩
      obtain ⟨hcc, hff⟩ := bcell hb1
      go_wp2_with fail
      refine (RIs_any r s _ h2).mono ?_
      rintro e w2 ⟨rfl, hb2⟩
      go_wp2
      refine bodyPost_ret (v := .tuple #[.int .i64 0, .int .i64 30]) (by simp [results, Tryd.results50, go_sem]) rfl ?_
      exact ⟨ret_int2 F.out.1.symm F.out.2.symm, bt hb2 (bt hb1 (below_alloc2 _ _ _))⟩
    · have hy := cmp_yes (show (isR p q && isR r s) = true by rw [ha, hc]; rfl)
      have m1 := mul60 ⟨(isR_true ha).2.2.1, (isR_true ha).2.2.2.1⟩ ⟨(by have := (isR_true hc).1; omega : -1073741824 ≤ s), (isR_true hc).2.1⟩
      have m2 := mul60 ⟨(isR_true hc).2.2.1, (isR_true hc).2.2.2.1⟩ ⟨(by have := (isR_true ha).1; omega : -1073741824 ≤ q), (isR_true ha).2.1⟩
      obtain ⟨X, ex⟩ : ∃ X, p * s = X := ⟨_, rfl⟩
      obtain ⟨Y, ey⟩ : ∃ Y, r * q = Y := ⟨_, rfl⟩
      rw [ex, ey] at hy
      rw [ex] at m1
      rw [ey] at m2
      have EX := Lib.hid ex
      have EY := Lib.hid ey
      have hcases : (X < Y ∧ ord X Y = -1) ∨ (Y < X ∧ ord X Y = 1) ∨ (X = Y ∧ ord X Y = 0) := by
        rcases Int.lt_trichotomy X Y with h | h | h
        · exact .inl ⟨h, ord_lt h⟩
        · exact .inr (.inr ⟨h, ord_eq h⟩)
        · exact .inr (.inl ⟨h, ord_gt h⟩)
      clear ex ey
      rcases hcases with ⟨hl, ho⟩ | ⟨hl, ho⟩ | ⟨hl, ho⟩
      · rw [ho] at hy
        have F := Lib.hid hy
        clear hy ho
        go_enter Tryd.func50, Tryd.ntmps50
        go_wp2_with fail
        refine (RIs_any p q _ h1).mono ?_
        rintro e w1 ⟨rfl, hb1⟩
        have c0 := cell_at_below hb1 w.heap.size 0 (.int .i64 p) (by go_simp)
        have c1 := cell_at_below hb1 w.heap.size 1 (.int .i64 q) (by go_simp)
        have d0 := cell_at_below hb1 (w.heap.size + 1) 0 (.int .i64 r) (by go_simp)
        have d1 := cell_at_below hb1 (w.heap.size + 1) 1 (.int .i64 s) (by go_simp)
        have W1 := Lib.hid (bt hb1 (below_alloc2 _ _ _))
        clear hb1
        go_wp2_with fail
        refine (RIs_any r s _ h2).mono ?_
        rintro e w2 ⟨rfl, hb2⟩
        have c0 := cell_at_below hb2 _ _ _ c0
        have c1 := cell_at_below hb2 _ _ _ c1
        have d0 := cell_at_below hb2 _ _ _ d0
        have d1 := cell_at_below hb2 _ _ _ d1
        have W2 := Lib.hid (bt hb2 W1.out)
        clear hb2 W1
        have EX' := EX.out
        have EY' := EY.out
        go_wp2_with fail
        go_quiet (fail)
        go_wp2
        refine bodyPost_ret (v := .tuple #[.int .i64 (-1), .int .i64 0]) (by simp [results, Tryd.results50, go_sem]) rfl ?_
        exact ⟨ret_int2 F.out.1.symm F.out.2.symm, by first | exact W2.out | exact W2.out.drew | exact below_drewN W2.out _⟩
      · rw [ho] at hy
        have F := Lib.hid hy
        clear hy ho
        go_enter Tryd.func50, Tryd.ntmps50
        go_wp2_with fail
        refine (RIs_any p q _ h1).mono ?_
        rintro e w1 ⟨rfl, hb1⟩
        have c0 := cell_at_below hb1 w.heap.size 0 (.int .i64 p) (by go_simp)
        have c1 := cell_at_below hb1 w.heap.size 1 (.int .i64 q) (by go_simp)
        have d0 := cell_at_below hb1 (w.heap.size + 1) 0 (.int .i64 r) (by go_simp)
        have d1 := cell_at_below hb1 (w.heap.size + 1) 1 (.int .i64 s) (by go_simp)
        have W1 := Lib.hid (bt hb1 (below_alloc2 _ _ _))
        clear hb1
        go_wp2_with fail
        refine (RIs_any r s _ h2).mono ?_
        rintro e w2 ⟨rfl, hb2⟩
        have c0 := cell_at_below hb2 _ _ _ c0
        have c1 := cell_at_below hb2 _ _ _ c1
        have d0 := cell_at_below hb2 _ _ _ d0
        have d1 := cell_at_below hb2 _ _ _ d1
        have W2 := Lib.hid (bt hb2 W1.out)
        clear hb2 W1
        have EX' := EX.out
        have EY' := EY.out
        go_wp2_with fail
        go_quiet (fail)
        go_wp2
        refine bodyPost_ret (v := .tuple #[.int .i64 1, .int .i64 0]) (by simp [results, Tryd.results50, go_sem]) rfl ?_
        exact ⟨ret_int2 F.out.1.symm F.out.2.symm, by first | exact W2.out | exact W2.out.drew | exact below_drewN W2.out _⟩
      · rw [ho] at hy
        have F := Lib.hid hy
        clear hy ho
        go_enter Tryd.func50, Tryd.ntmps50
        go_wp2_with fail
        refine (RIs_any p q _ h1).mono ?_
        rintro e w1 ⟨rfl, hb1⟩
        have c0 := cell_at_below hb1 w.heap.size 0 (.int .i64 p) (by go_simp)
        have c1 := cell_at_below hb1 w.heap.size 1 (.int .i64 q) (by go_simp)
        have d0 := cell_at_below hb1 (w.heap.size + 1) 0 (.int .i64 r) (by go_simp)
        have d1 := cell_at_below hb1 (w.heap.size + 1) 1 (.int .i64 s) (by go_simp)
        have W1 := Lib.hid (bt hb1 (below_alloc2 _ _ _))
        clear hb1
        go_wp2_with fail
        refine (RIs_any r s _ h2).mono ?_
        rintro e w2 ⟨rfl, hb2⟩
        have c0 := cell_at_below hb2 _ _ _ c0
        have c1 := cell_at_below hb2 _ _ _ c1
        have d0 := cell_at_below hb2 _ _ _ d0
        have d1 := cell_at_below hb2 _ _ _ d1
        have W2 := Lib.hid (bt hb2 W1.out)
        clear hb2 W1
        have EX' := EX.out
        have EY' := EY.out
        go_wp2_with fail
        go_quiet (fail)
        go_wp2
        refine bodyPost_ret (v := .tuple #[.int .i64 0, .int .i64 0]) (by simp [results, Tryd.results50, go_sem]) rfl ?_
        exact ⟨ret_int2 F.out.1.symm F.out.2.symm, by first | exact W2.out | exact W2.out.drew | exact below_drewN W2.out _⟩
end Go.Proofs.YtdpmijmofeechaaDoor.RefCmp
