/- The walk of copselaw03.RatioMakes. -/
import Derived.Test.YtdpmijmofeechaaDoorLivesW
import Derived.Test.YtdpmijmofeechaaDoorRatL
namespace Go.Proofs.YtdpmijmofeechaaDoor.RatMk
set_option linter.unusedVariables false
open Go.RowKit Base BigM BigZ GcdM RatM RatW RefRat Glob WideM WideW Rat2 TextW PartW LivesW

theorem fitR {x y : Int} (h : isR x y = true) : Fit x y := by
  obtain ⟨h1, h2, h3, h4, _⟩ := isR_true h
  exact ⟨⟨by omega, by omega⟩, by omega, by omega⟩
theorem ord_same (p q x y : Int) (h : x * q = p * y) (hy : 1 ≤ y) : (q < 1 ∧ ordV x y p q = 0 ∧ ordE y q = 1) ∨ (1 ≤ q ∧ ordV x y p q = 0 ∧ ordE y q = 0) := by
  unfold ordV ordE
  by_cases hq : q < 1
  · rw [if_pos (.inr hq), if_pos (.inr hq)]; exact .inl ⟨hq, rfl, rfl⟩
  · rw [if_neg (by omega), if_neg (by omega), h]; exact .inr ⟨by omega, ord_eq rfl, rfl⟩

/-- what RatioMakes needs of Of -/
theorem makes (p q : Int) : ∃ x y z, ofR p q = (x, y, z) ∧ ((q = 0 ∧ z = 11) ∨ (q ≠ 0 ∧ z = 10) ∨ (q ≠ 0 ∧ z = 0 ∧ isR x y = true ∧ x * q = p * y)) := by
  refine ⟨(ofR p q).1, (ofR p q).2.1, (ofR p q).2.2, rfl, ?_⟩
  rcases ofR_e p q with ⟨h1, h2⟩ | ⟨h1, h2 | h2⟩
  · exact .inl ⟨h1, h2⟩
  · exact .inr (.inl ⟨h1, h2⟩)
  · exact .inr (.inr ⟨h1, h2, ofR_is h2⟩)

set_option maxHeartbeats 4000000 in
theorem RatioMakes_any (p q r0 r1 : Int) (w : World) (hG : G w) (h1 : Fit p q) (h2 : Fit r0 r1) :
    Calls Tryd.prog 3 #[.int .i64 p, .int .i64 q, .agg #[.int .i64 r0, .int .i64 r1]] w fun e w' => e = .returned (.bool true) ∧ Below w.heap.size w w' := by
  obtain ⟨x, y, z, ez, hz⟩ := makes p q
  have EZ := Lib.hid ez
  have HZ := Lib.hid hz
  have HG := Lib.hid hG
  clear ez hz hG
  go_enter Tryd.func3, Tryd.ntmps3
  go_wp2_with fail
  refine (Of_any p q _ h1).mono ?_
  rintro e w1 ⟨rfl, hb1⟩
  rw [EZ.out]
  obtain ⟨c0, c1, _, _, z1⟩ := keepA hb1
  have hA := below_alloc1 w1 (.cells #[.int .i64 x, .int .i64 y] 23)
  have c0 := cell_at_below hA _ _ _ c0
  have c1 := cell_at_below hA _ _ _ c1
  have W1 := Lib.hid (bt hA (bt hb1 (below_alloc1 w _)))
  clear hb1 hA
  go_wp2_with fail
  refine (ROf_any p q _ h1).mono ?_
  rintro e w2 ⟨rfl, hb2⟩
  rw [EZ.out]
  obtain ⟨a0, a1, _, _, z2⟩ := keepA hb2
  have hA := below_alloc1 w2 (.cells #[.int .i64 x, .int .i64 y] 23)
  have c0 := cell_at_below hA _ _ _ (cell_at_below hb2 _ _ _ c0)
  have c1 := cell_at_below hA _ _ _ (cell_at_below hb2 _ _ _ c1)
  have a0 := cell_at_below hA _ _ _ a0
  have a1 := cell_at_below hA _ _ _ a1
  have b0 : (w2.alloc (.cells #[.int .i64 x, .int .i64 y] 23)).cell? ⟨w2.heap.size, 0, none⟩ = some (.int .i64 x) := by go_simp
  have b1 : (w2.alloc (.cells #[.int .i64 x, .int .i64 y] 23)).cell? ⟨w2.heap.size, 1, none⟩ = some (.int .i64 y) := by go_simp
  have W2 := Lib.hid (bt hA (bt hb2 W1.out))
  clear hb2 hA W1
  go_wp2_with fail
  go_region_held3 (fun w' => w'.cell? ⟨w.heap.size, 0, none⟩ = some (.int .i64 r0) ∧ w'.cell? ⟨w.heap.size, 1, none⟩ = some (.int .i64 r1) ∧ w'.cell? ⟨w1.heap.size, 0, none⟩ = some (.int .i64 x) ∧ w'.cell? ⟨w1.heap.size, 1, none⟩ = some (.int .i64 y) ∧ w'.cell? ⟨w2.heap.size, 0, none⟩ = some (.int .i64 x) ∧ w'.cell? ⟨w2.heap.size, 1, none⟩ = some (.int .i64 y))
    (first | (go_keep; done))
    ((first | (go_at_call 16; refine (lives_any _ (by exact (HG.out.below W2.out).below (Below.refl _ _).drew)).mono ?_; rintro e w5 ⟨rfl, hb5⟩; have kk50 := cell_at_below hb5 w.heap.size 0 (.int .i64 r0) (by assumption); have kk51 := cell_at_below hb5 w.heap.size 1 (.int .i64 r1) (by assumption); have kk52 := cell_at_below hb5 w1.heap.size 0 (.int .i64 x) (by assumption); have kk53 := cell_at_below hb5 w1.heap.size 1 (.int .i64 y) (by assumption); have kk54 := cell_at_below hb5 w2.heap.size 0 (.int .i64 x) (by assumption); have kk55 := cell_at_below hb5 w2.heap.size 1 (.int .i64 y) (by assumption)) | (go_at_call 17; refine (Is_any r0 r1 _ h2.1.1 h2.1.2 h2.2.1 h2.2.2).mono ?_; rintro e w6 ⟨rfl, hb6⟩; have kk60 := cell_at_below hb6 w.heap.size 0 (.int .i64 r0) (by assumption); have kk61 := cell_at_below hb6 w.heap.size 1 (.int .i64 r1) (by assumption); have kk62 := cell_at_below hb6 w1.heap.size 0 (.int .i64 x) (by assumption); have kk63 := cell_at_below hb6 w1.heap.size 1 (.int .i64 y) (by assumption); have kk64 := cell_at_below hb6 w2.heap.size 0 (.int .i64 x) (by assumption); have kk65 := cell_at_below hb6 w2.heap.size 1 (.int .i64 y) (by assumption)) | (go_at_call 18; refine (RIs_any r0 r1 _ h2).mono ?_; rintro e w7 ⟨rfl, hb7⟩; have kk70 := cell_at_below hb7 w.heap.size 0 (.int .i64 r0) (by assumption); have kk71 := cell_at_below hb7 w.heap.size 1 (.int .i64 r1) (by assumption); have kk72 := cell_at_below hb7 w1.heap.size 0 (.int .i64 x) (by assumption); have kk73 := cell_at_below hb7 w1.heap.size 1 (.int .i64 y) (by assumption); have kk74 := cell_at_below hb7 w2.heap.size 0 (.int .i64 x) (by assumption); have kk75 := cell_at_below hb7 w2.heap.size 1 (.int .i64 y) (by assumption))))
  have W7 := Lib.hid (bt hb7 (bt hb6 (bt hb5 W2.out.drew)))
  clear hb5 hb6 hb7 W2
  rcases HZ.out with ⟨hq, hz⟩ | ⟨hq, hz⟩ | ⟨hq, hz, hr, hx⟩
  · subst hq
    subst hz
    clear HZ EZ
    go_wp2
    go_ret
    exact ⟨rfl, W7.out⟩
  · have hqb : (q == 0) = false := by simpa using hq
    subst hz
    clear HZ EZ hq
    go_wp2
    go_ret
    exact ⟨rfl, W7.out⟩
  · subst hz
    have hf := fitR hr
    have HR := Lib.hid hr
    have HO := ord_same p q x y hx (isR_true hr).1
    clear HZ EZ hq hr hx
    rcases HO with ⟨hq, o1, o2⟩ | ⟨hq, o1, o2⟩
    all_goals
      have O1 := Lib.hid o1
      have O2 := Lib.hid o2
      clear o1 o2
      go_wp2_with fail
      refine (ROrder_any x y p q _ hf h1).mono ?_
      rintro e w8 ⟨rfl, hb8⟩
      rw [O1.out, O2.out]
      have m0 := cell_at_below hb8 _ _ _ kk72
      have m1 := cell_at_below hb8 _ _ _ kk73
      have W8 := Lib.hid (bt hb8 W7.out)
      clear hb8 W7
      go_wp2_with fail
      refine (Is_any x y _ hf.1.1 hf.1.2 hf.2.1 hf.2.2).mono ?_
      rintro e w9 ⟨rfl, hb9⟩
      rw [HR.out]
      go_wp2
      go_ret
      exact ⟨rfl, bt hb9 W8.out⟩
end Go.Proofs.YtdpmijmofeechaaDoor.RatMk
