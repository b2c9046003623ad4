/- The walk of copselaw13.ScoreMakes. -/
import Derived.Test.YtdpmijmofeechaaDoorLiv13
import Derived.Test.YtdpmijmofeechaaDoorRatL
namespace Go.Proofs.YtdpmijmofeechaaDoor.ScoMk
set_option linter.unusedVariables false
open Go.RowKit Base BigM BigZ GcdM RatM RatW RefRat Glob WideM WideW Rat2 TextW PartW ScoW SclW SorM SorW SorX SorY OddW Liv13

/-- what ScoreMakes needs of Of -/
theorem makesS (s t : Int) : ∃ x y z, ofS s t = (x, y, z) ∧ ((z = 1 ∧ x = 0 ∧ y = 0) ∨ (z = 0 ∧ isS x y = true ∧ x * t = s * y ∧ (0 ≤ s ∧ s ≤ 274877906944 ∧ 1 ≤ t ∧ t ≤ 16))) := by
  by_cases hok : 0 ≤ s ∧ s ≤ 274877906944 ∧ 1 ≤ t ∧ t ≤ 16
  · have hok' := hok
    obtain ⟨h1, h2, h3, h4⟩ := hok
    have hp := g_pos (p := s) (q := t) (by omega)
    have hl := g_le_right s t (by omega)
    obtain ⟨e1, e2, e3⟩ := div_g s t (by omega)
    have ex : s / g s t = ofX s t := by unfold ofX; rw [Int.tdiv_eq_ediv_of_nonneg h1]
    have ey : t / g s t = ofY s t := by unfold ofY; rw [Int.tdiv_eq_ediv_of_nonneg (by omega)]
    have a1 := Int.ediv_nonneg h1 (show 0 ≤ g s t by omega)
    have a2 := Int.ediv_le_self (g s t) h1
    have a3 := Int.ediv_le_self (g s t) (show 0 ≤ t by omega)
    have a5 := Int.ediv_nonneg (show 0 ≤ t by omega) (show 0 ≤ g s t by omega)
    refine ⟨_, _, _, ofS_yes hok', .inr ⟨rfl, ?_, ?_, hok'⟩⟩
    · have a4 : t / g s t ≠ 0 := by
        intro h0
        rw [ey] at h0
        rw [h0, Int.zero_mul] at e2
        omega
      refine decide_eq_true ⟨by omega, by omega, a1, by omega, ?_⟩
      rw [ex, ey, g_def, e3]; rfl
    · show s / g s t * t = s * (t / g s t)
      rw [ex, ey]
      have e : ofX s t * (ofY s t * g s t) = ofX s t * g s t * ofY s t := by rw [Int.mul_assoc, Int.mul_comm (ofY s t)]
      rw [← e2, ← e1] at e
      exact e
  · exact ⟨_, _, _, ofS_no hok, .inl ⟨rfl, rfl, rfl⟩⟩
theorem fitS {x y : Int} (h : isS x y = true) : Fit x y := by
  obtain ⟨h1, h2, h3, h4, _⟩ := isS_true h
  exact ⟨⟨by omega, by omega⟩, by omega, by omega⟩
set_option maxHeartbeats 4000000 in
set_option maxRecDepth 100000 in
theorem ScoreMakes_no (s t p q : Int) (w : World) (hG : G w) (h1 : (-9223372036854775808 ≤ s ∧ s ≤ 9223372036854775807) ∧ -9223372036854775808 ≤ t ∧ t ≤ 9223372036854775807) (h2 : Fit p q) (ez : ofS s t = (0, 0, 1)) :
    Calls Tryd.prog 6 #[.int .i64 s, .int .i64 t, .agg #[.int .i64 p, .int .i64 q]] w fun e w' => e = .returned (.bool true) ∧ Below w.heap.size w w' := by
  obtain ⟨x, hx0⟩ : ∃ x : Int, x = 0 := ⟨_, rfl⟩
  obtain ⟨y, hy0⟩ : ∃ y : Int, y = 0 := ⟨_, rfl⟩
  have EZ := Lib.hid (show ofS s t = (x, y, 1) by rw [ez, hx0, hy0])
  have HG := Lib.hid hG
  clear ez hG hx0 hy0
  go_enter Tryd.func6, Tryd.ntmps6
  go_wp2_with fail
  refine (SOf_any s t _ h1.1 h1.2).mono ?_
  rintro e w1 ⟨rfl, hb1⟩
  rw [EZ.out]
  obtain ⟨c0, c1, _, _, z1⟩ := keepA hb1
  have hA := below_alloc1 w1 (.cells #[.int .i64 x, .int .i64 y] 36)
  have c0 := cell_at_below hA _ _ _ c0
  have c1 := cell_at_below hA _ _ _ c1
  have W1 := Lib.hid (bt hA (bt hb1 (below_alloc1 w _)))
  clear hb1 hA
  go_wp2_with fail
  refine (RSOf_any s t _ h1.1 h1.2).mono ?_
  rintro e w2 ⟨rfl, hb2⟩
  rw [EZ.out]
  obtain ⟨a0, a1, _, _, z2⟩ := keepA hb2
  have hA := below_alloc1 w2 (.cells #[.int .i64 x, .int .i64 y] 36)
  have c0 := cell_at_below hA _ _ _ (cell_at_below hb2 _ _ _ c0)
  have c1 := cell_at_below hA _ _ _ (cell_at_below hb2 _ _ _ c1)
  have a0 := cell_at_below hA _ _ _ a0
  have a1 := cell_at_below hA _ _ _ a1
  have b0 : (w2.alloc (.cells #[.int .i64 x, .int .i64 y] 36)).cell? ⟨w2.heap.size, 0, none⟩ = some (.int .i64 x) := by go_simp
  have b1 : (w2.alloc (.cells #[.int .i64 x, .int .i64 y] 36)).cell? ⟨w2.heap.size, 1, none⟩ = some (.int .i64 y) := by go_simp
  have W2 := Lib.hid (bt hA (bt hb2 W1.out))
  clear hb2 hA W1
  go_wp2_with fail
  refine wp_region_held_drew (S := (fun w' => w'.cell? ⟨w.heap.size, 0, none⟩ = some (.int .i64 p) ∧ w'.cell? ⟨w.heap.size, 1, none⟩ = some (.int .i64 q) ∧ w'.cell? ⟨w1.heap.size, 0, none⟩ = some (.int .i64 x) ∧ w'.cell? ⟨w1.heap.size, 1, none⟩ = some (.int .i64 y) ∧ w'.cell? ⟨w2.heap.size, 0, none⟩ = some (.int .i64 x) ∧ w'.cell? ⟨w2.heap.size, 1, none⟩ = some (.int .i64 y))) (by kernel_rfl) ?_ (fun hHeld => ?_)
  · go_keep
  refine wpAnyH_ready (rs := [0]) (by kernel_rfl) (by simp) ?_
  refine AllReadyH.cons (by simp only [List.getElem?_toArray, List.getElem?_cons_zero]; try exact rfl) (fun K hK => ?_) AllReadyH.nil
  go_simp
  refine (lives13_any _ ((HG.out.below W2.out).below (Below.refl _ _).drew)).mono ?_; rintro e w5 ⟨rfl, hb5⟩; have kk50 := cell_at_below hb5 w.heap.size 0 (.int .i64 p) hHeld.1; have kk51 := cell_at_below hb5 w.heap.size 1 (.int .i64 q) hHeld.2.1; have kk52 := cell_at_below hb5 w1.heap.size 0 (.int .i64 x) hHeld.2.2.1; have kk53 := cell_at_below hb5 w1.heap.size 1 (.int .i64 y) hHeld.2.2.2.1; have kk54 := cell_at_below hb5 w2.heap.size 0 (.int .i64 x) hHeld.2.2.2.2.1; have kk55 := cell_at_below hb5 w2.heap.size 1 (.int .i64 y) hHeld.2.2.2.2.2
  try go_wp2_with fail
  refine hK.out _ _ ?_ (fun hHeld => ?_)
  · exact ⟨kk50, kk51, kk52, kk53, kk54, kk55⟩
  clear hK K
  try simp only [Act.put, List.setIfInBounds_toArray, List.set_cons_zero, List.set_cons_succ]
  refine wpAnyH_take (i := 1) (oi := ?oi1) (v := ?v1) ?hi1 (by kernel_rfl) ?hf1 (by kernel_rfl) ?hq1 ?hy1 hHeld ?rest1
  case hi1 => (simp only [List.getElem?_toArray, List.getElem?_cons_succ, List.getElem?_cons_zero]; try exact rfl)
  case hf1 => kernel_rfl
  case hq1 => exact fun _ _ _ h => h
  case hy1 => (refine Or.inl ⟨rfl, ?_⟩; intro w hSw; (try dsimp only at hSw); go_simp; try with_reducible rfl)
  try simp only [Act.put, List.setIfInBounds_toArray, List.set_cons_zero, List.set_cons_succ]
  refine wpAnyH_take (i := 2) (oi := ?oi2) (v := ?v2) ?hi2 (by kernel_rfl) ?hf2 (by kernel_rfl) ?hq2 ?hy2 hHeld ?rest2
  case hi2 => (simp only [List.getElem?_toArray, List.getElem?_cons_succ, List.getElem?_cons_zero]; try exact rfl)
  case hf2 => kernel_rfl
  case hq2 => exact fun _ _ _ h => h
  case hy2 => (refine Or.inl ⟨rfl, ?_⟩; intro w hSw; (try dsimp only at hSw); go_simp; try with_reducible rfl)
  try simp only [Act.put, List.setIfInBounds_toArray, List.set_cons_zero, List.set_cons_succ]
  refine wpAnyH_take (i := 3) (oi := ?oi3) (v := ?v3) ?hi3 (by kernel_rfl) ?hf3 (by kernel_rfl) ?hq3 ?hy3 hHeld ?rest3
  case hi3 => (simp only [List.getElem?_toArray, List.getElem?_cons_succ, List.getElem?_cons_zero]; try exact rfl)
  case hf3 => kernel_rfl
  case hq3 => exact fun _ _ _ h => h
  case hy3 => (refine Or.inl ⟨rfl, ?_⟩; intro w hSw; (try dsimp only at hSw); go_simp; try with_reducible rfl)
  try simp only [Act.put, List.setIfInBounds_toArray, List.set_cons_zero, List.set_cons_succ]
  refine wpAnyH_take (i := 4) (oi := ?oi4) (v := ?v4) ?hi4 (by kernel_rfl) ?hf4 (by kernel_rfl) ?hq4 ?hy4 hHeld ?rest4
  case hi4 => (simp only [List.getElem?_toArray, List.getElem?_cons_succ, List.getElem?_cons_zero]; try exact rfl)
  case hf4 => kernel_rfl
  case hq4 => exact fun _ _ _ h => h
  case hy4 => (refine Or.inl ⟨rfl, ?_⟩; intro w hSw; (try dsimp only at hSw); go_simp; try with_reducible rfl)
  try simp only [Act.put, List.setIfInBounds_toArray, List.set_cons_zero, List.set_cons_succ]
  refine wpAnyH_take (i := 5) (oi := ?oi5) (v := ?v5) ?hi5 (by kernel_rfl) ?hf5 (by kernel_rfl) ?hq5 ?hy5 hHeld ?rest5
  case hi5 => (simp only [List.getElem?_toArray, List.getElem?_cons_succ, List.getElem?_cons_zero]; try exact rfl)
  case hf5 => kernel_rfl
  case hq5 => exact fun _ _ _ h => h
  case hy5 => (refine Or.inl ⟨rfl, ?_⟩; intro w hSw; (try dsimp only at hSw); go_simp; try with_reducible rfl)
  try simp only [Act.put, List.setIfInBounds_toArray, List.set_cons_zero, List.set_cons_succ]
  refine wpAnyH_take (i := 6) (oi := ?oi6) (v := ?v6) ?hi6 (by kernel_rfl) ?hf6 (by kernel_rfl) ?hq6 ?hy6 hHeld ?rest6
  case hi6 => (simp only [List.getElem?_toArray, List.getElem?_cons_succ, List.getElem?_cons_zero]; try exact rfl)
  case hf6 => kernel_rfl
  case hq6 => exact fun _ _ _ h => h
  case hy6 => (refine Or.inl ⟨rfl, ?_⟩; intro w hSw; (try dsimp only at hSw); go_simp; try with_reducible rfl)
  try simp only [Act.put, List.setIfInBounds_toArray, List.set_cons_zero, List.set_cons_succ]
  refine wpAnyH_take (i := 7) (oi := ?oi7) (v := ?v7) ?hi7 (by kernel_rfl) ?hf7 (by kernel_rfl) ?hq7 ?hy7 hHeld ?rest7
  case hi7 => (simp only [List.getElem?_toArray, List.getElem?_cons_succ, List.getElem?_cons_zero]; try exact rfl)
  case hf7 => kernel_rfl
  case hq7 => exact fun _ _ _ h => h
  case hy7 => (refine Or.inl ⟨rfl, ?_⟩; intro w hSw; (try dsimp only at hSw); go_simp; try with_reducible rfl)
  try simp only [Act.put, List.setIfInBounds_toArray, List.set_cons_zero, List.set_cons_succ]
  refine wpAnyH_take (i := 8) (oi := ?oi8) (v := ?v8) ?hi8 (by kernel_rfl) ?hf8 (by kernel_rfl) ?hq8 ?hy8 hHeld ?rest8
  case hi8 => (simp only [List.getElem?_toArray, List.getElem?_cons_succ, List.getElem?_cons_zero]; try exact rfl)
  case hf8 => kernel_rfl
  case hq8 => exact fun _ _ _ h => h
  case hy8 => (refine Or.inl ⟨rfl, ?_⟩; intro w hSw; (try dsimp only at hSw); go_simp; try with_reducible rfl)
  try simp only [Act.put, List.setIfInBounds_toArray, List.set_cons_zero, List.set_cons_succ]
  refine wpAnyH_take (i := 9) (oi := ?oi9) (v := ?v9) ?hi9 (by kernel_rfl) ?hf9 (by kernel_rfl) ?hq9 ?hy9 hHeld ?rest9
  case hi9 => (simp only [List.getElem?_toArray, List.getElem?_cons_succ, List.getElem?_cons_zero]; try exact rfl)
  case hf9 => kernel_rfl
  case hq9 => exact fun _ _ _ h => h
  case hy9 => (refine Or.inl ⟨rfl, ?_⟩; intro w hSw; (try dsimp only at hSw); go_simp; try with_reducible rfl)
  try simp only [Act.put, List.setIfInBounds_toArray, List.set_cons_zero, List.set_cons_succ]
  refine wpAnyH_take (i := 10) (oi := ?oi10) (v := ?v10) ?hi10 (by kernel_rfl) ?hf10 (by kernel_rfl) ?hq10 ?hy10 hHeld ?rest10
  case hi10 => (simp only [List.getElem?_toArray, List.getElem?_cons_succ, List.getElem?_cons_zero]; try exact rfl)
  case hf10 => kernel_rfl
  case hq10 => exact fun _ _ _ h => h
  case hy10 => (refine Or.inl ⟨rfl, ?_⟩; intro w hSw; (try dsimp only at hSw); go_simp; try with_reducible rfl)
  try simp only [Act.put, List.setIfInBounds_toArray, List.set_cons_zero, List.set_cons_succ]
  refine wpAnyH_take (i := 11) (oi := ?oi11) (v := ?v11) ?hi11 (by kernel_rfl) ?hf11 (by kernel_rfl) ?hq11 ?hy11 hHeld ?rest11
  case hi11 => (simp only [List.getElem?_toArray, List.getElem?_cons_succ, List.getElem?_cons_zero]; try exact rfl)
  case hf11 => kernel_rfl
  case hq11 => exact fun _ _ _ h => h
  case hy11 => (refine Or.inl ⟨rfl, ?_⟩; intro w hSw; (try dsimp only at hSw); go_simp; try with_reducible rfl)
  try simp only [Act.put, List.setIfInBounds_toArray, List.set_cons_zero, List.set_cons_succ]
  refine wpAnyH_take (i := 12) (oi := ?oi12) (v := ?v12) ?hi12 (by kernel_rfl) ?hf12 (by kernel_rfl) ?hq12 ?hy12 hHeld ?rest12
  case hi12 => (simp only [List.getElem?_toArray, List.getElem?_cons_succ, List.getElem?_cons_zero]; try exact rfl)
  case hf12 => kernel_rfl
  case hq12 => exact fun _ _ _ h => h
  case hy12 => (refine Or.inl ⟨rfl, ?_⟩; intro w hSw; (try dsimp only at hSw); go_simp; try with_reducible rfl)
  try simp only [Act.put, List.setIfInBounds_toArray, List.set_cons_zero, List.set_cons_succ]
  refine wpAnyH_take (i := 13) (oi := ?oi13) (v := ?v13) ?hi13 (by kernel_rfl) ?hf13 (by kernel_rfl) ?hq13 ?hy13 hHeld ?rest13
  case hi13 => (simp only [List.getElem?_toArray, List.getElem?_cons_succ, List.getElem?_cons_zero]; try exact rfl)
  case hf13 => kernel_rfl
  case hq13 => exact fun _ _ _ h => h
  case hy13 => (refine Or.inl ⟨rfl, ?_⟩; intro w hSw; (try dsimp only at hSw); go_simp; try with_reducible rfl)
  try simp only [Act.put, List.setIfInBounds_toArray, List.set_cons_zero, List.set_cons_succ]
  refine wpAnyH_take (i := 15) (oi := ?oi15) (v := ?v15) ?hi15 (by kernel_rfl) ?hf15 (by kernel_rfl) ?hq15 ?hy15 hHeld ?rest15
  case hi15 => (simp only [List.getElem?_toArray, List.getElem?_cons_succ, List.getElem?_cons_zero]; try exact rfl)
  case hf15 => kernel_rfl
  case hq15 => exact fun _ _ _ h => h
  case hy15 => (refine Or.inl ⟨rfl, ?_⟩; intro w hSw; (try dsimp only at hSw); go_simp; try with_reducible rfl)
  try simp only [Act.put, List.setIfInBounds_toArray, List.set_cons_zero, List.set_cons_succ]
  refine wpAnyH_ready (rs := [14]) (by kernel_rfl) (by simp) ?_
  refine AllReadyH.cons (by simp only [List.getElem?_toArray, List.getElem?_cons_succ, List.getElem?_cons_zero]; try exact rfl) (fun K hK => ?_) AllReadyH.nil
  go_simp
  refine (SIs_any p q _ h2).mono ?_; rintro e w6 ⟨rfl, hb6⟩; have kk60 := cell_at_below hb6 w.heap.size 0 (.int .i64 p) hHeld.1; have kk61 := cell_at_below hb6 w.heap.size 1 (.int .i64 q) hHeld.2.1; have kk62 := cell_at_below hb6 w1.heap.size 0 (.int .i64 x) hHeld.2.2.1; have kk63 := cell_at_below hb6 w1.heap.size 1 (.int .i64 y) hHeld.2.2.2.1; have kk64 := cell_at_below hb6 w2.heap.size 0 (.int .i64 x) hHeld.2.2.2.2.1; have kk65 := cell_at_below hb6 w2.heap.size 1 (.int .i64 y) hHeld.2.2.2.2.2
  try go_wp2_with fail
  refine hK.out _ _ ?_ (fun hHeld => ?_)
  · exact ⟨kk60, kk61, kk62, kk63, kk64, kk65⟩
  clear hK K
  try simp only [Act.put, List.setIfInBounds_toArray, List.set_cons_zero, List.set_cons_succ]
  refine wpAnyH_ready (rs := [16]) (by kernel_rfl) (by simp) ?_
  refine AllReadyH.cons (by simp only [List.getElem?_toArray, List.getElem?_cons_succ, List.getElem?_cons_zero]; try exact rfl) (fun K hK => ?_) AllReadyH.nil
  go_simp
  refine (RSIs_any p q _ h2).mono ?_; rintro e w7 ⟨rfl, hb7⟩; have kk70 := cell_at_below hb7 w.heap.size 0 (.int .i64 p) hHeld.1; have kk71 := cell_at_below hb7 w.heap.size 1 (.int .i64 q) hHeld.2.1; have kk72 := cell_at_below hb7 w1.heap.size 0 (.int .i64 x) hHeld.2.2.1; have kk73 := cell_at_below hb7 w1.heap.size 1 (.int .i64 y) hHeld.2.2.2.1; have kk74 := cell_at_below hb7 w2.heap.size 0 (.int .i64 x) hHeld.2.2.2.2.1; have kk75 := cell_at_below hb7 w2.heap.size 1 (.int .i64 y) hHeld.2.2.2.2.2
  try go_wp2_with fail
  refine hK.out _ _ ?_ (fun hHeld => ?_)
  · exact ⟨kk70, kk71, kk72, kk73, kk74, kk75⟩
  clear hK K
  try simp only [Act.put, List.setIfInBounds_toArray, List.set_cons_zero, List.set_cons_succ]
  refine wpAnyH_take (i := 17) (oi := ?oi17) (v := ?v17) ?hi17 (by kernel_rfl) ?hf17 (by kernel_rfl) ?hq17 ?hy17 hHeld ?rest17
  case hi17 => (simp only [List.getElem?_toArray, List.getElem?_cons_succ, List.getElem?_cons_zero]; try exact rfl)
  case hf17 => kernel_rfl
  case hq17 => exact fun _ _ _ h => h
  case hy17 => (refine Or.inl ⟨rfl, ?_⟩; intro w hSw; (try dsimp only at hSw); go_simp; try with_reducible rfl)
  try simp only [Act.put, List.setIfInBounds_toArray, List.set_cons_zero, List.set_cons_succ]
  refine wpAnyH_take (i := 18) (oi := ?oi18) (v := ?v18) ?hi18 (by kernel_rfl) ?hf18 (by kernel_rfl) ?hq18 ?hy18 hHeld ?rest18
  case hi18 => (simp only [List.getElem?_toArray, List.getElem?_cons_succ, List.getElem?_cons_zero]; try exact rfl)
  case hf18 => kernel_rfl
  case hq18 => exact fun _ _ _ h => h
  case hy18 => (refine Or.inl ⟨rfl, ?_⟩; intro w hSw; (try dsimp only at hSw); go_simp; try with_reducible rfl)
  try simp only [Act.put, List.setIfInBounds_toArray, List.set_cons_zero, List.set_cons_succ]
  refine wpAnyH_take (i := 19) (oi := ?oi19) (v := ?v19) ?hi19 (by kernel_rfl) ?hf19 (by kernel_rfl) ?hq19 ?hy19 hHeld ?rest19
  case hi19 => (simp only [List.getElem?_toArray, List.getElem?_cons_succ, List.getElem?_cons_zero]; try exact rfl)
  case hf19 => kernel_rfl
  case hq19 => exact fun _ _ _ h => h
  case hy19 => (refine Or.inl ⟨rfl, ?_⟩; intro w hSw; (try dsimp only at hSw); go_simp; try with_reducible rfl)
  try simp only [Act.put, List.setIfInBounds_toArray, List.set_cons_zero, List.set_cons_succ]
  refine wpAnyH_take (i := 20) (oi := ?oi20) (v := ?v20) ?hi20 (by kernel_rfl) ?hf20 (by kernel_rfl) ?hq20 ?hy20 hHeld ?rest20
  case hi20 => (simp only [List.getElem?_toArray, List.getElem?_cons_succ, List.getElem?_cons_zero]; try exact rfl)
  case hf20 => kernel_rfl
  case hq20 => exact fun _ _ _ h => h
  case hy20 => (refine Or.inl ⟨rfl, ?_⟩; intro w hSw; (try dsimp only at hSw); go_simp; try with_reducible rfl)
  try simp only [Act.put, List.setIfInBounds_toArray, List.set_cons_zero, List.set_cons_succ]
  refine wpAnyH_take (i := 21) (oi := ?oi21) (v := ?v21) ?hi21 (by kernel_rfl) ?hf21 (by kernel_rfl) ?hq21 ?hy21 hHeld ?rest21
  case hi21 => (simp only [List.getElem?_toArray, List.getElem?_cons_succ, List.getElem?_cons_zero]; try exact rfl)
  case hf21 => kernel_rfl
  case hq21 => exact fun _ _ _ h => h
  case hy21 => (refine Or.inl ⟨rfl, ?_⟩; intro w hSw; (try dsimp only at hSw); go_simp; try with_reducible rfl)
  try simp only [Act.put, List.setIfInBounds_toArray, List.set_cons_zero, List.set_cons_succ]
  refine wpAnyH_take (i := 22) (oi := ?oi22) (v := ?v22) ?hi22 (by kernel_rfl) ?hf22 (by kernel_rfl) ?hq22 ?hy22 hHeld ?rest22
  case hi22 => (simp only [List.getElem?_toArray, List.getElem?_cons_succ, List.getElem?_cons_zero]; try exact rfl)
  case hf22 => kernel_rfl
  case hq22 => exact fun _ _ _ h => h
  case hy22 => (refine Or.inl ⟨rfl, ?_⟩; intro w hSw; (try dsimp only at hSw); go_simp; try with_reducible rfl)
  try simp only [Act.put, List.setIfInBounds_toArray, List.set_cons_zero, List.set_cons_succ]
  refine wpAnyH_take (i := 23) (oi := ?oi23) (v := undef) ?hi23 (by kernel_rfl) ?hf23 (by kernel_rfl) ?hq23 ?hy23 hHeld ?rest23
  case hi23 => (simp only [List.getElem?_toArray, List.getElem?_cons_succ, List.getElem?_cons_zero]; try exact rfl)
  case hf23 => kernel_rfl
  case hq23 => exact fun _ _ _ h => h
  case hy23 => exact Or.inr ⟨rfl, rfl⟩
  try simp only [Act.put, List.setIfInBounds_toArray, List.set_cons_zero, List.set_cons_succ]
  refine wpAnyH_take (i := 24) (oi := ?oi24) (v := undef) ?hi24 (by kernel_rfl) ?hf24 (by kernel_rfl) ?hq24 ?hy24 hHeld ?rest24
  case hi24 => (simp only [List.getElem?_toArray, List.getElem?_cons_succ, List.getElem?_cons_zero]; try exact rfl)
  case hf24 => kernel_rfl
  case hq24 => exact fun _ _ _ h => h
  case hy24 => exact Or.inr ⟨rfl, rfl⟩
  try simp only [Act.put, List.setIfInBounds_toArray, List.set_cons_zero, List.set_cons_succ]
  refine wpAnyH_take (i := 25) (oi := ?oi25) (v := undef) ?hi25 (by kernel_rfl) ?hf25 (by kernel_rfl) ?hq25 ?hy25 hHeld ?rest25
  case hi25 => (simp only [List.getElem?_toArray, List.getElem?_cons_succ, List.getElem?_cons_zero]; try exact rfl)
  case hf25 => kernel_rfl
  case hq25 => exact fun _ _ _ h => h
  case hy25 => exact Or.inr ⟨rfl, rfl⟩
  try simp only [Act.put, List.setIfInBounds_toArray, List.set_cons_zero, List.set_cons_succ]
  refine wpAnyH_take (i := 26) (oi := ?oi26) (v := undef) ?hi26 (by kernel_rfl) ?hf26 (by kernel_rfl) ?hq26 ?hy26 hHeld ?rest26
  case hi26 => (simp only [List.getElem?_toArray, List.getElem?_cons_succ, List.getElem?_cons_zero]; try exact rfl)
  case hf26 => kernel_rfl
  case hq26 => exact fun _ _ _ h => h
  case hy26 => exact Or.inr ⟨rfl, rfl⟩
  try simp only [Act.put, List.setIfInBounds_toArray, List.set_cons_zero, List.set_cons_succ]
  refine wpAnyH_take (i := 27) (oi := ?oi27) (v := undef) ?hi27 (by kernel_rfl) ?hf27 (by kernel_rfl) ?hq27 ?hy27 hHeld ?rest27
  case hi27 => (simp only [List.getElem?_toArray, List.getElem?_cons_succ, List.getElem?_cons_zero]; try exact rfl)
  case hf27 => kernel_rfl
  case hq27 => exact fun _ _ _ h => h
  case hy27 => exact Or.inr ⟨rfl, rfl⟩
  try simp only [Act.put, List.setIfInBounds_toArray, List.set_cons_zero, List.set_cons_succ]
  refine wpAnyH_take (i := 28) (oi := ?oi28) (v := undef) ?hi28 (by kernel_rfl) ?hf28 (by kernel_rfl) ?hq28 ?hy28 hHeld ?rest28
  case hi28 => (simp only [List.getElem?_toArray, List.getElem?_cons_succ, List.getElem?_cons_zero]; try exact rfl)
  case hf28 => kernel_rfl
  case hq28 => exact fun _ _ _ h => h
  case hy28 => exact Or.inr ⟨rfl, rfl⟩
  try simp only [Act.put, List.setIfInBounds_toArray, List.set_cons_zero, List.set_cons_succ]
  refine wpAnyH_take (i := 29) (oi := ?oi29) (v := undef) ?hi29 (by kernel_rfl) ?hf29 (by kernel_rfl) ?hq29 ?hy29 hHeld ?rest29
  case hi29 => (simp only [List.getElem?_toArray, List.getElem?_cons_succ, List.getElem?_cons_zero]; try exact rfl)
  case hf29 => kernel_rfl
  case hq29 => exact fun _ _ _ h => h
  case hy29 => exact Or.inr ⟨rfl, rfl⟩
  try simp only [Act.put, List.setIfInBounds_toArray, List.set_cons_zero, List.set_cons_succ]
  refine wpAnyH_take (i := 30) (oi := ?oi30) (v := undef) ?hi30 (by kernel_rfl) ?hf30 (by kernel_rfl) ?hq30 ?hy30 hHeld ?rest30
  case hi30 => (simp only [List.getElem?_toArray, List.getElem?_cons_succ, List.getElem?_cons_zero]; try exact rfl)
  case hf30 => kernel_rfl
  case hq30 => exact fun _ _ _ h => h
  case hy30 => exact Or.inr ⟨rfl, rfl⟩
  try simp only [Act.put, List.setIfInBounds_toArray, List.set_cons_zero, List.set_cons_succ]
  refine wpAnyH_take (i := 31) (oi := ?oi31) (v := undef) ?hi31 (by kernel_rfl) ?hf31 (by kernel_rfl) ?hq31 ?hy31 hHeld ?rest31
  case hi31 => (simp only [List.getElem?_toArray, List.getElem?_cons_succ, List.getElem?_cons_zero]; try exact rfl)
  case hf31 => kernel_rfl
  case hq31 => exact fun _ _ _ h => h
  case hy31 => exact Or.inr ⟨rfl, rfl⟩
  try simp only [Act.put, List.setIfInBounds_toArray, List.set_cons_zero, List.set_cons_succ]
  refine wpAnyH_take (i := 32) (oi := ?oi32) (v := undef) ?hi32 (by kernel_rfl) ?hf32 (by kernel_rfl) ?hq32 ?hy32 hHeld ?rest32
  case hi32 => (simp only [List.getElem?_toArray, List.getElem?_cons_succ, List.getElem?_cons_zero]; try exact rfl)
  case hf32 => kernel_rfl
  case hq32 => exact fun _ _ _ h => h
  case hy32 => exact Or.inr ⟨rfl, rfl⟩
  try simp only [Act.put, List.setIfInBounds_toArray, List.set_cons_zero, List.set_cons_succ]
  refine wpAnyH_take (i := 33) (oi := ?oi33) (v := undef) ?hi33 (by kernel_rfl) ?hf33 (by kernel_rfl) ?hq33 ?hy33 hHeld ?rest33
  case hi33 => (simp only [List.getElem?_toArray, List.getElem?_cons_succ, List.getElem?_cons_zero]; try exact rfl)
  case hf33 => kernel_rfl
  case hq33 => exact fun _ _ _ h => h
  case hy33 => exact Or.inr ⟨rfl, rfl⟩
  try simp only [Act.put, List.setIfInBounds_toArray, List.set_cons_zero, List.set_cons_succ]
  refine wpAnyH_take (i := 34) (oi := ?oi34) (v := undef) ?hi34 (by kernel_rfl) ?hf34 (by kernel_rfl) ?hq34 ?hy34 hHeld ?rest34
  case hi34 => (simp only [List.getElem?_toArray, List.getElem?_cons_succ, List.getElem?_cons_zero]; try exact rfl)
  case hf34 => kernel_rfl
  case hq34 => exact fun _ _ _ h => h
  case hy34 => exact Or.inr ⟨rfl, rfl⟩
  try simp only [Act.put, List.setIfInBounds_toArray, List.set_cons_zero, List.set_cons_succ]
  refine wpAnyH_take (i := 35) (oi := ?oi35) (v := undef) ?hi35 (by kernel_rfl) ?hf35 (by kernel_rfl) ?hq35 ?hy35 hHeld ?rest35
  case hi35 => (simp only [List.getElem?_toArray, List.getElem?_cons_succ, List.getElem?_cons_zero]; try exact rfl)
  case hf35 => kernel_rfl
  case hq35 => exact fun _ _ _ h => h
  case hy35 => exact Or.inr ⟨rfl, rfl⟩
  try simp only [Act.put, List.setIfInBounds_toArray, List.set_cons_zero, List.set_cons_succ]
  refine wpAnyH_take (i := 36) (oi := ?oi36) (v := undef) ?hi36 (by kernel_rfl) ?hf36 (by kernel_rfl) ?hq36 ?hy36 hHeld ?rest36
  case hi36 => (simp only [List.getElem?_toArray, List.getElem?_cons_succ, List.getElem?_cons_zero]; try exact rfl)
  case hf36 => kernel_rfl
  case hq36 => exact fun _ _ _ h => h
  case hy36 => exact Or.inr ⟨rfl, rfl⟩
  try simp only [Act.put, List.setIfInBounds_toArray, List.set_cons_zero, List.set_cons_succ]
  refine wpAnyH_take (i := 37) (oi := ?oi37) (v := ?v37) ?hi37 (by kernel_rfl) ?hf37 (by kernel_rfl) ?hq37 ?hy37 hHeld ?rest37
  case hi37 => (simp only [List.getElem?_toArray, List.getElem?_cons_succ, List.getElem?_cons_zero]; try exact rfl)
  case hf37 => kernel_rfl
  case hq37 => exact fun _ _ _ h => h
  case hy37 => (refine Or.inl ⟨rfl, ?_⟩; intro w hSw; (try dsimp only at hSw); go_simp; try with_reducible rfl)
  try simp only [Act.put, List.setIfInBounds_toArray, List.set_cons_zero, List.set_cons_succ]
  refine wpAnyH_take (i := 38) (oi := ?oi38) (v := ?v38) ?hi38 (by kernel_rfl) ?hf38 (by kernel_rfl) ?hq38 ?hy38 hHeld ?rest38
  case hi38 => (simp only [List.getElem?_toArray, List.getElem?_cons_succ, List.getElem?_cons_zero]; try exact rfl)
  case hf38 => kernel_rfl
  case hq38 => exact fun _ _ _ h => h
  case hy38 => (refine Or.inl ⟨rfl, ?_⟩; intro w hSw; (try dsimp only at hSw); go_simp; try with_reducible rfl)
  try simp only [Act.put, List.setIfInBounds_toArray, List.set_cons_zero, List.set_cons_succ]
  refine wpAnyH_done (by kernel_rfl) ?_ _
  have W7 := Lib.hid (bt hb7 (bt hb6 (bt hb5 W2.out.drew)))
  clear hb5 hb6 hb7 W2 hHeld
  cases hs : isS p q
  · have F := Lib.hid (show meanV p q = 0 ∧ meanE p q = 130 by unfold meanV meanE; rw [hs]; exact ⟨rfl, rfl⟩)
    have HS := Lib.hid hs
    clear hs
    go_wp2_with fail
    refine (Mean_any p q _ h2).mono ?_
    rintro e w9 ⟨rfl, hb9⟩
    rw [F.out.1, F.out.2]
    have m0 := cell_at_below hb9 _ _ _ kk70
    have m1 := cell_at_below hb9 _ _ _ kk71
    have W9 := Lib.hid (bt hb9 W7.out)
    clear hb9
    go_wp2_with fail
    refine (RSIs_any p q _ h2).mono ?_
    rintro e wA ⟨rfl, hbA⟩
    rw [HS.out]
    have WA := Lib.hid (bt hbA W9.out)
    clear hbA
    go_wp2
    go_ret
    exact ⟨rfl, WA.out⟩
  · have F := Lib.hid (show meanV p q = p / q ∧ meanE p q = 0 by unfold meanV meanE; rw [hs]; exact ⟨rfl, rfl⟩)
    obtain ⟨i1, i2, i3, i4, _⟩ := isS_true hs
    have hq0 : (q == 0) = false := by simpa using (by omega : q ≠ 0)
    have HS := Lib.hid hs
    clear hs
    go_wp2_with fail
    refine (Mean_any p q _ h2).mono ?_
    rintro e w9 ⟨rfl, hb9⟩
    rw [F.out.1, F.out.2]
    have m0 := cell_at_below hb9 _ _ _ kk70
    have m1 := cell_at_below hb9 _ _ _ kk71
    have W9 := Lib.hid (bt hb9 W7.out)
    clear hb9
    go_wp2_with fail
    refine (RSIs_any p q _ h2).mono ?_
    rintro e wA ⟨rfl, hbA⟩
    rw [HS.out]
    have m0 := cell_at_below hbA _ _ _ m0
    have m1 := cell_at_below hbA _ _ _ m1
    have WA := Lib.hid (bt hbA W9.out)
    clear hbA
    go_wp2
    go_ret
    exact ⟨rfl, WA.out⟩
set_option maxHeartbeats 4000000 in
set_option maxRecDepth 100000 in
theorem ScoreMakes_yes (s t p q : Int) (w : World) (hG : G w) (h1 : (-9223372036854775808 ≤ s ∧ s ≤ 9223372036854775807) ∧ -9223372036854775808 ≤ t ∧ t ≤ 9223372036854775807) (h2 : Fit p q) (x y : Int) (ez : ofS s t = (x, y, 0)) (hr : isS x y = true) (hx : x * t = s * y) (s0 : 0 ≤ s) (s1 : s ≤ 274877906944) (t0 : 1 ≤ t) (t1 : t ≤ 16) :
    Calls Tryd.prog 6 #[.int .i64 s, .int .i64 t, .agg #[.int .i64 p, .int .i64 q]] w fun e w' => e = .returned (.bool true) ∧ Below w.heap.size w w' := by
  have hf := fitS hr
  obtain ⟨j1, j2, j3, j4, _⟩ := isS_true hr
  have HM := prod60 j3 j4 t0 t1
  have HM2 := prod60 s0 s1 j1 j2
  have HE : (x * t == s * y) = true := by simpa using hx
  have HE2 : (IntKind.i64.wrap (x * t) != IntKind.i64.wrap (s * y)) = false := by rw [hx]; simp
  have HR := Lib.hid hr
  have EZ := Lib.hid ez
  have HG := Lib.hid hG
  clear ez hG hr hx
  go_enter Tryd.func6, Tryd.ntmps6
  go_wp2_with fail
  refine (SOf_any s t _ h1.1 h1.2).mono ?_
  rintro e w1 ⟨rfl, hb1⟩
  rw [EZ.out]
  obtain ⟨c0, c1, _, _, z1⟩ := keepA hb1
  have hA := below_alloc1 w1 (.cells #[.int .i64 x, .int .i64 y] 36)
  have c0 := cell_at_below hA _ _ _ c0
  have c1 := cell_at_below hA _ _ _ c1
  have W1 := Lib.hid (bt hA (bt hb1 (below_alloc1 w _)))
  clear hb1 hA
  go_wp2_with fail
  refine (RSOf_any s t _ h1.1 h1.2).mono ?_
  rintro e w2 ⟨rfl, hb2⟩
  rw [EZ.out]
  obtain ⟨a0, a1, _, _, z2⟩ := keepA hb2
  have hA := below_alloc1 w2 (.cells #[.int .i64 x, .int .i64 y] 36)
  have c0 := cell_at_below hA _ _ _ (cell_at_below hb2 _ _ _ c0)
  have c1 := cell_at_below hA _ _ _ (cell_at_below hb2 _ _ _ c1)
  have a0 := cell_at_below hA _ _ _ a0
  have a1 := cell_at_below hA _ _ _ a1
  have b0 : (w2.alloc (.cells #[.int .i64 x, .int .i64 y] 36)).cell? ⟨w2.heap.size, 0, none⟩ = some (.int .i64 x) := by go_simp
  have b1 : (w2.alloc (.cells #[.int .i64 x, .int .i64 y] 36)).cell? ⟨w2.heap.size, 1, none⟩ = some (.int .i64 y) := by go_simp
  have W2 := Lib.hid (bt hA (bt hb2 W1.out))
  clear hb2 hA W1
  go_wp2_with fail
  refine wp_region_held_drew (S := (fun w' => w'.cell? ⟨w.heap.size, 0, none⟩ = some (.int .i64 p) ∧ w'.cell? ⟨w.heap.size, 1, none⟩ = some (.int .i64 q) ∧ w'.cell? ⟨w1.heap.size, 0, none⟩ = some (.int .i64 x) ∧ w'.cell? ⟨w1.heap.size, 1, none⟩ = some (.int .i64 y) ∧ w'.cell? ⟨w2.heap.size, 0, none⟩ = some (.int .i64 x) ∧ w'.cell? ⟨w2.heap.size, 1, none⟩ = some (.int .i64 y))) (by kernel_rfl) ?_ (fun hHeld => ?_)
  · go_keep
  refine wpAnyH_ready (rs := [0]) (by kernel_rfl) (by simp) ?_
  refine AllReadyH.cons (by simp only [List.getElem?_toArray, List.getElem?_cons_zero]; try exact rfl) (fun K hK => ?_) AllReadyH.nil
  go_simp
  refine (lives13_any _ ((HG.out.below W2.out).below (Below.refl _ _).drew)).mono ?_; rintro e w5 ⟨rfl, hb5⟩; have kk50 := cell_at_below hb5 w.heap.size 0 (.int .i64 p) hHeld.1; have kk51 := cell_at_below hb5 w.heap.size 1 (.int .i64 q) hHeld.2.1; have kk52 := cell_at_below hb5 w1.heap.size 0 (.int .i64 x) hHeld.2.2.1; have kk53 := cell_at_below hb5 w1.heap.size 1 (.int .i64 y) hHeld.2.2.2.1; have kk54 := cell_at_below hb5 w2.heap.size 0 (.int .i64 x) hHeld.2.2.2.2.1; have kk55 := cell_at_below hb5 w2.heap.size 1 (.int .i64 y) hHeld.2.2.2.2.2
  try go_wp2_with fail
  refine hK.out _ _ ?_ (fun hHeld => ?_)
  · exact ⟨kk50, kk51, kk52, kk53, kk54, kk55⟩
  clear hK K
  try simp only [Act.put, List.setIfInBounds_toArray, List.set_cons_zero, List.set_cons_succ]
  refine wpAnyH_take (i := 1) (oi := ?oi1) (v := ?v1) ?hi1 (by kernel_rfl) ?hf1 (by kernel_rfl) ?hq1 ?hy1 hHeld ?rest1
  case hi1 => (simp only [List.getElem?_toArray, List.getElem?_cons_succ, List.getElem?_cons_zero]; try exact rfl)
  case hf1 => kernel_rfl
  case hq1 => exact fun _ _ _ h => h
  case hy1 => (refine Or.inl ⟨rfl, ?_⟩; intro w hSw; (try dsimp only at hSw); go_simp; try with_reducible rfl)
  try simp only [Act.put, List.setIfInBounds_toArray, List.set_cons_zero, List.set_cons_succ]
  refine wpAnyH_take (i := 2) (oi := ?oi2) (v := ?v2) ?hi2 (by kernel_rfl) ?hf2 (by kernel_rfl) ?hq2 ?hy2 hHeld ?rest2
  case hi2 => (simp only [List.getElem?_toArray, List.getElem?_cons_succ, List.getElem?_cons_zero]; try exact rfl)
  case hf2 => kernel_rfl
  case hq2 => exact fun _ _ _ h => h
  case hy2 => (refine Or.inl ⟨rfl, ?_⟩; intro w hSw; (try dsimp only at hSw); go_simp; try with_reducible rfl)
  try simp only [Act.put, List.setIfInBounds_toArray, List.set_cons_zero, List.set_cons_succ]
  refine wpAnyH_take (i := 3) (oi := ?oi3) (v := ?v3) ?hi3 (by kernel_rfl) ?hf3 (by kernel_rfl) ?hq3 ?hy3 hHeld ?rest3
  case hi3 => (simp only [List.getElem?_toArray, List.getElem?_cons_succ, List.getElem?_cons_zero]; try exact rfl)
  case hf3 => kernel_rfl
  case hq3 => exact fun _ _ _ h => h
  case hy3 => (refine Or.inl ⟨rfl, ?_⟩; intro w hSw; (try dsimp only at hSw); go_simp; try with_reducible rfl)
  try simp only [Act.put, List.setIfInBounds_toArray, List.set_cons_zero, List.set_cons_succ]
  refine wpAnyH_take (i := 4) (oi := ?oi4) (v := ?v4) ?hi4 (by kernel_rfl) ?hf4 (by kernel_rfl) ?hq4 ?hy4 hHeld ?rest4
  case hi4 => (simp only [List.getElem?_toArray, List.getElem?_cons_succ, List.getElem?_cons_zero]; try exact rfl)
  case hf4 => kernel_rfl
  case hq4 => exact fun _ _ _ h => h
  case hy4 => (refine Or.inl ⟨rfl, ?_⟩; intro w hSw; (try dsimp only at hSw); go_simp; try with_reducible rfl)
  try simp only [Act.put, List.setIfInBounds_toArray, List.set_cons_zero, List.set_cons_succ]
  refine wpAnyH_take (i := 5) (oi := ?oi5) (v := ?v5) ?hi5 (by kernel_rfl) ?hf5 (by kernel_rfl) ?hq5 ?hy5 hHeld ?rest5
  case hi5 => (simp only [List.getElem?_toArray, List.getElem?_cons_succ, List.getElem?_cons_zero]; try exact rfl)
  case hf5 => kernel_rfl
  case hq5 => exact fun _ _ _ h => h
  case hy5 => (refine Or.inl ⟨rfl, ?_⟩; intro w hSw; (try dsimp only at hSw); go_simp; try with_reducible rfl)
  try simp only [Act.put, List.setIfInBounds_toArray, List.set_cons_zero, List.set_cons_succ]
  refine wpAnyH_take (i := 6) (oi := ?oi6) (v := ?v6) ?hi6 (by kernel_rfl) ?hf6 (by kernel_rfl) ?hq6 ?hy6 hHeld ?rest6
  case hi6 => (simp only [List.getElem?_toArray, List.getElem?_cons_succ, List.getElem?_cons_zero]; try exact rfl)
  case hf6 => kernel_rfl
  case hq6 => exact fun _ _ _ h => h
  case hy6 => (refine Or.inl ⟨rfl, ?_⟩; intro w hSw; (try dsimp only at hSw); go_simp; try with_reducible rfl)
  try simp only [Act.put, List.setIfInBounds_toArray, List.set_cons_zero, List.set_cons_succ]
  refine wpAnyH_take (i := 7) (oi := ?oi7) (v := ?v7) ?hi7 (by kernel_rfl) ?hf7 (by kernel_rfl) ?hq7 ?hy7 hHeld ?rest7
  case hi7 => (simp only [List.getElem?_toArray, List.getElem?_cons_succ, List.getElem?_cons_zero]; try exact rfl)
  case hf7 => kernel_rfl
  case hq7 => exact fun _ _ _ h => h
  case hy7 => (refine Or.inl ⟨rfl, ?_⟩; intro w hSw; (try dsimp only at hSw); go_simp; try with_reducible rfl)
  try simp only [Act.put, List.setIfInBounds_toArray, List.set_cons_zero, List.set_cons_succ]
  refine wpAnyH_take (i := 8) (oi := ?oi8) (v := ?v8) ?hi8 (by kernel_rfl) ?hf8 (by kernel_rfl) ?hq8 ?hy8 hHeld ?rest8
  case hi8 => (simp only [List.getElem?_toArray, List.getElem?_cons_succ, List.getElem?_cons_zero]; try exact rfl)
  case hf8 => kernel_rfl
  case hq8 => exact fun _ _ _ h => h
  case hy8 => (refine Or.inl ⟨rfl, ?_⟩; intro w hSw; (try dsimp only at hSw); go_simp; try with_reducible rfl)
  try simp only [Act.put, List.setIfInBounds_toArray, List.set_cons_zero, List.set_cons_succ]
  refine wpAnyH_take (i := 9) (oi := ?oi9) (v := ?v9) ?hi9 (by kernel_rfl) ?hf9 (by kernel_rfl) ?hq9 ?hy9 hHeld ?rest9
  case hi9 => (simp only [List.getElem?_toArray, List.getElem?_cons_succ, List.getElem?_cons_zero]; try exact rfl)
  case hf9 => kernel_rfl
  case hq9 => exact fun _ _ _ h => h
  case hy9 => (refine Or.inl ⟨rfl, ?_⟩; intro w hSw; (try dsimp only at hSw); go_simp; try with_reducible rfl)
  try simp only [Act.put, List.setIfInBounds_toArray, List.set_cons_zero, List.set_cons_succ]
  refine wpAnyH_take (i := 10) (oi := ?oi10) (v := ?v10) ?hi10 (by kernel_rfl) ?hf10 (by kernel_rfl) ?hq10 ?hy10 hHeld ?rest10
  case hi10 => (simp only [List.getElem?_toArray, List.getElem?_cons_succ, List.getElem?_cons_zero]; try exact rfl)
  case hf10 => kernel_rfl
  case hq10 => exact fun _ _ _ h => h
  case hy10 => (refine Or.inl ⟨rfl, ?_⟩; intro w hSw; (try dsimp only at hSw); go_simp; try with_reducible rfl)
  try simp only [Act.put, List.setIfInBounds_toArray, List.set_cons_zero, List.set_cons_succ]
  refine wpAnyH_take (i := 11) (oi := ?oi11) (v := ?v11) ?hi11 (by kernel_rfl) ?hf11 (by kernel_rfl) ?hq11 ?hy11 hHeld ?rest11
  case hi11 => (simp only [List.getElem?_toArray, List.getElem?_cons_succ, List.getElem?_cons_zero]; try exact rfl)
  case hf11 => kernel_rfl
  case hq11 => exact fun _ _ _ h => h
  case hy11 => (refine Or.inl ⟨rfl, ?_⟩; intro w hSw; (try dsimp only at hSw); go_simp; try with_reducible rfl)
  try simp only [Act.put, List.setIfInBounds_toArray, List.set_cons_zero, List.set_cons_succ]
  refine wpAnyH_take (i := 12) (oi := ?oi12) (v := ?v12) ?hi12 (by kernel_rfl) ?hf12 (by kernel_rfl) ?hq12 ?hy12 hHeld ?rest12
  case hi12 => (simp only [List.getElem?_toArray, List.getElem?_cons_succ, List.getElem?_cons_zero]; try exact rfl)
  case hf12 => kernel_rfl
  case hq12 => exact fun _ _ _ h => h
  case hy12 => (refine Or.inl ⟨rfl, ?_⟩; intro w hSw; (try dsimp only at hSw); go_simp; try with_reducible rfl)
  try simp only [Act.put, List.setIfInBounds_toArray, List.set_cons_zero, List.set_cons_succ]
  refine wpAnyH_take (i := 13) (oi := ?oi13) (v := ?v13) ?hi13 (by kernel_rfl) ?hf13 (by kernel_rfl) ?hq13 ?hy13 hHeld ?rest13
  case hi13 => (simp only [List.getElem?_toArray, List.getElem?_cons_succ, List.getElem?_cons_zero]; try exact rfl)
  case hf13 => kernel_rfl
  case hq13 => exact fun _ _ _ h => h
  case hy13 => (refine Or.inl ⟨rfl, ?_⟩; intro w hSw; (try dsimp only at hSw); go_simp; try with_reducible rfl)
  try simp only [Act.put, List.setIfInBounds_toArray, List.set_cons_zero, List.set_cons_succ]
  refine wpAnyH_take (i := 15) (oi := ?oi15) (v := ?v15) ?hi15 (by kernel_rfl) ?hf15 (by kernel_rfl) ?hq15 ?hy15 hHeld ?rest15
  case hi15 => (simp only [List.getElem?_toArray, List.getElem?_cons_succ, List.getElem?_cons_zero]; try exact rfl)
  case hf15 => kernel_rfl
  case hq15 => exact fun _ _ _ h => h
  case hy15 => (refine Or.inl ⟨rfl, ?_⟩; intro w hSw; (try dsimp only at hSw); go_simp; try with_reducible rfl)
  try simp only [Act.put, List.setIfInBounds_toArray, List.set_cons_zero, List.set_cons_succ]
  refine wpAnyH_ready (rs := [14]) (by kernel_rfl) (by simp) ?_
  refine AllReadyH.cons (by simp only [List.getElem?_toArray, List.getElem?_cons_succ, List.getElem?_cons_zero]; try exact rfl) (fun K hK => ?_) AllReadyH.nil
  go_simp
  refine (SIs_any p q _ h2).mono ?_; rintro e w6 ⟨rfl, hb6⟩; have kk60 := cell_at_below hb6 w.heap.size 0 (.int .i64 p) hHeld.1; have kk61 := cell_at_below hb6 w.heap.size 1 (.int .i64 q) hHeld.2.1; have kk62 := cell_at_below hb6 w1.heap.size 0 (.int .i64 x) hHeld.2.2.1; have kk63 := cell_at_below hb6 w1.heap.size 1 (.int .i64 y) hHeld.2.2.2.1; have kk64 := cell_at_below hb6 w2.heap.size 0 (.int .i64 x) hHeld.2.2.2.2.1; have kk65 := cell_at_below hb6 w2.heap.size 1 (.int .i64 y) hHeld.2.2.2.2.2
  try go_wp2_with fail
  refine hK.out _ _ ?_ (fun hHeld => ?_)
  · exact ⟨kk60, kk61, kk62, kk63, kk64, kk65⟩
  clear hK K
  try simp only [Act.put, List.setIfInBounds_toArray, List.set_cons_zero, List.set_cons_succ]
  refine wpAnyH_ready (rs := [16]) (by kernel_rfl) (by simp) ?_
  refine AllReadyH.cons (by simp only [List.getElem?_toArray, List.getElem?_cons_succ, List.getElem?_cons_zero]; try exact rfl) (fun K hK => ?_) AllReadyH.nil
  go_simp
  refine (RSIs_any p q _ h2).mono ?_; rintro e w7 ⟨rfl, hb7⟩; have kk70 := cell_at_below hb7 w.heap.size 0 (.int .i64 p) hHeld.1; have kk71 := cell_at_below hb7 w.heap.size 1 (.int .i64 q) hHeld.2.1; have kk72 := cell_at_below hb7 w1.heap.size 0 (.int .i64 x) hHeld.2.2.1; have kk73 := cell_at_below hb7 w1.heap.size 1 (.int .i64 y) hHeld.2.2.2.1; have kk74 := cell_at_below hb7 w2.heap.size 0 (.int .i64 x) hHeld.2.2.2.2.1; have kk75 := cell_at_below hb7 w2.heap.size 1 (.int .i64 y) hHeld.2.2.2.2.2
  try go_wp2_with fail
  refine hK.out _ _ ?_ (fun hHeld => ?_)
  · exact ⟨kk70, kk71, kk72, kk73, kk74, kk75⟩
  clear hK K
  try simp only [Act.put, List.setIfInBounds_toArray, List.set_cons_zero, List.set_cons_succ]
  refine wpAnyH_take (i := 17) (oi := ?oi17) (v := ?v17) ?hi17 (by kernel_rfl) ?hf17 (by kernel_rfl) ?hq17 ?hy17 hHeld ?rest17
  case hi17 => (simp only [List.getElem?_toArray, List.getElem?_cons_succ, List.getElem?_cons_zero]; try exact rfl)
  case hf17 => kernel_rfl
  case hq17 => exact fun _ _ _ h => h
  case hy17 => (refine Or.inl ⟨rfl, ?_⟩; intro w hSw; (try dsimp only at hSw); go_simp; try with_reducible rfl)
  try simp only [Act.put, List.setIfInBounds_toArray, List.set_cons_zero, List.set_cons_succ]
  refine wpAnyH_take (i := 18) (oi := ?oi18) (v := ?v18) ?hi18 (by kernel_rfl) ?hf18 (by kernel_rfl) ?hq18 ?hy18 hHeld ?rest18
  case hi18 => (simp only [List.getElem?_toArray, List.getElem?_cons_succ, List.getElem?_cons_zero]; try exact rfl)
  case hf18 => kernel_rfl
  case hq18 => exact fun _ _ _ h => h
  case hy18 => (refine Or.inl ⟨rfl, ?_⟩; intro w hSw; (try dsimp only at hSw); go_simp; try with_reducible rfl)
  try simp only [Act.put, List.setIfInBounds_toArray, List.set_cons_zero, List.set_cons_succ]
  refine wpAnyH_take (i := 19) (oi := ?oi19) (v := ?v19) ?hi19 (by kernel_rfl) ?hf19 (by kernel_rfl) ?hq19 ?hy19 hHeld ?rest19
  case hi19 => (simp only [List.getElem?_toArray, List.getElem?_cons_succ, List.getElem?_cons_zero]; try exact rfl)
  case hf19 => kernel_rfl
  case hq19 => exact fun _ _ _ h => h
  case hy19 => (refine Or.inl ⟨rfl, ?_⟩; intro w hSw; (try dsimp only at hSw); go_simp; try with_reducible rfl)
  try simp only [Act.put, List.setIfInBounds_toArray, List.set_cons_zero, List.set_cons_succ]
  refine wpAnyH_take (i := 20) (oi := ?oi20) (v := ?v20) ?hi20 (by kernel_rfl) ?hf20 (by kernel_rfl) ?hq20 ?hy20 hHeld ?rest20
  case hi20 => (simp only [List.getElem?_toArray, List.getElem?_cons_succ, List.getElem?_cons_zero]; try exact rfl)
  case hf20 => kernel_rfl
  case hq20 => exact fun _ _ _ h => h
  case hy20 => (refine Or.inl ⟨rfl, ?_⟩; intro w hSw; (try dsimp only at hSw); go_simp; try with_reducible rfl)
  try simp only [Act.put, List.setIfInBounds_toArray, List.set_cons_zero, List.set_cons_succ]
  refine wpAnyH_take (i := 21) (oi := ?oi21) (v := ?v21) ?hi21 (by kernel_rfl) ?hf21 (by kernel_rfl) ?hq21 ?hy21 hHeld ?rest21
  case hi21 => (simp only [List.getElem?_toArray, List.getElem?_cons_succ, List.getElem?_cons_zero]; try exact rfl)
  case hf21 => kernel_rfl
  case hq21 => exact fun _ _ _ h => h
  case hy21 => (refine Or.inl ⟨rfl, ?_⟩; intro w hSw; (try dsimp only at hSw); go_simp; try with_reducible rfl)
  try simp only [Act.put, List.setIfInBounds_toArray, List.set_cons_zero, List.set_cons_succ]
  refine wpAnyH_take (i := 22) (oi := ?oi22) (v := ?v22) ?hi22 (by kernel_rfl) ?hf22 (by kernel_rfl) ?hq22 ?hy22 hHeld ?rest22
  case hi22 => (simp only [List.getElem?_toArray, List.getElem?_cons_succ, List.getElem?_cons_zero]; try exact rfl)
  case hf22 => kernel_rfl
  case hq22 => exact fun _ _ _ h => h
  case hy22 => (refine Or.inl ⟨rfl, ?_⟩; intro w hSw; (try dsimp only at hSw); go_simp; try with_reducible rfl)
  try simp only [Act.put, List.setIfInBounds_toArray, List.set_cons_zero, List.set_cons_succ]
  refine wpAnyH_take (i := 23) (oi := ?oi23) (v := ?v23) ?hi23 (by kernel_rfl) ?hf23 (by kernel_rfl) ?hq23 ?hy23 hHeld ?rest23
  case hi23 => (simp only [List.getElem?_toArray, List.getElem?_cons_succ, List.getElem?_cons_zero]; try exact rfl)
  case hf23 => kernel_rfl
  case hq23 => exact fun _ _ _ h => h
  case hy23 => (refine Or.inl ⟨rfl, ?_⟩; intro w hSw; (try dsimp only at hSw); go_simp; try with_reducible rfl)
  try simp only [Act.put, List.setIfInBounds_toArray, List.set_cons_zero, List.set_cons_succ]
  refine wpAnyH_ready (rs := [24]) (by kernel_rfl) (by simp) ?_
  refine AllReadyH.cons (by simp only [List.getElem?_toArray, List.getElem?_cons_succ, List.getElem?_cons_zero]; try exact rfl) (fun K hK => ?_) AllReadyH.nil
  go_simp
  refine (SIs_any x y _ hf).mono ?_; rintro e w8 ⟨rfl, hb8⟩; rw [HR.out]; have kk80 := cell_at_below hb8 w.heap.size 0 (.int .i64 p) hHeld.1; have kk81 := cell_at_below hb8 w.heap.size 1 (.int .i64 q) hHeld.2.1; have kk82 := cell_at_below hb8 w1.heap.size 0 (.int .i64 x) hHeld.2.2.1; have kk83 := cell_at_below hb8 w1.heap.size 1 (.int .i64 y) hHeld.2.2.2.1; have kk84 := cell_at_below hb8 w2.heap.size 0 (.int .i64 x) hHeld.2.2.2.2.1; have kk85 := cell_at_below hb8 w2.heap.size 1 (.int .i64 y) hHeld.2.2.2.2.2
  try go_wp2_with fail
  refine hK.out _ _ ?_ (fun hHeld => ?_)
  · exact ⟨kk80, kk81, kk82, kk83, kk84, kk85⟩
  clear hK K
  try simp only [Act.put, List.setIfInBounds_toArray, List.set_cons_zero, List.set_cons_succ]
  refine wpAnyH_take (i := 25) (oi := ?oi25) (v := ?v25) ?hi25 (by kernel_rfl) ?hf25 (by kernel_rfl) ?hq25 ?hy25 hHeld ?rest25
  case hi25 => (simp only [List.getElem?_toArray, List.getElem?_cons_succ, List.getElem?_cons_zero]; try exact rfl)
  case hf25 => kernel_rfl
  case hq25 => exact fun _ _ _ h => h
  case hy25 => (refine Or.inl ⟨rfl, ?_⟩; intro w hSw; (try dsimp only at hSw); go_simp; try with_reducible rfl)
  try simp only [Act.put, List.setIfInBounds_toArray, List.set_cons_zero, List.set_cons_succ]
  refine wpAnyH_take (i := 26) (oi := ?oi26) (v := ?v26) ?hi26 (by kernel_rfl) ?hf26 (by kernel_rfl) ?hq26 ?hy26 hHeld ?rest26
  case hi26 => (simp only [List.getElem?_toArray, List.getElem?_cons_succ, List.getElem?_cons_zero]; try exact rfl)
  case hf26 => kernel_rfl
  case hq26 => exact fun _ _ _ h => h
  case hy26 => (refine Or.inl ⟨rfl, ?_⟩; intro w hSw; (try dsimp only at hSw); go_simp; try with_reducible rfl)
  try simp only [Act.put, List.setIfInBounds_toArray, List.set_cons_zero, List.set_cons_succ]
  refine wpAnyH_take (i := 27) (oi := ?oi27) (v := ?v27) ?hi27 (by kernel_rfl) ?hf27 (by kernel_rfl) ?hq27 ?hy27 hHeld ?rest27
  case hi27 => (simp only [List.getElem?_toArray, List.getElem?_cons_succ, List.getElem?_cons_zero]; try exact rfl)
  case hf27 => kernel_rfl
  case hq27 => exact fun _ _ _ h => h
  case hy27 => (refine Or.inl ⟨rfl, ?_⟩; intro w hSw; (try dsimp only at hSw); go_simp; try with_reducible rfl)
  try simp only [Act.put, List.setIfInBounds_toArray, List.set_cons_zero, List.set_cons_succ]
  refine wpAnyH_take (i := 28) (oi := ?oi28) (v := ?v28) ?hi28 (by kernel_rfl) ?hf28 (by kernel_rfl) ?hq28 ?hy28 hHeld ?rest28
  case hi28 => (simp only [List.getElem?_toArray, List.getElem?_cons_succ, List.getElem?_cons_zero]; try exact rfl)
  case hf28 => kernel_rfl
  case hq28 => exact fun _ _ _ h => h
  case hy28 => (refine Or.inl ⟨rfl, ?_⟩; intro w hSw; (try dsimp only at hSw); go_simp; try with_reducible rfl)
  try simp only [Act.put, List.setIfInBounds_toArray, List.set_cons_zero, List.set_cons_succ]
  refine wpAnyH_take (i := 29) (oi := ?oi29) (v := ?v29) ?hi29 (by kernel_rfl) ?hf29 (by kernel_rfl) ?hq29 ?hy29 hHeld ?rest29
  case hi29 => (simp only [List.getElem?_toArray, List.getElem?_cons_succ, List.getElem?_cons_zero]; try exact rfl)
  case hf29 => kernel_rfl
  case hq29 => exact fun _ _ _ h => h
  case hy29 => (refine Or.inl ⟨rfl, ?_⟩; intro w hSw; (try dsimp only at hSw); go_simp; try with_reducible rfl)
  try simp only [Act.put, List.setIfInBounds_toArray, List.set_cons_zero, List.set_cons_succ]
  refine wpAnyH_take (i := 30) (oi := ?oi30) (v := ?v30) ?hi30 (by kernel_rfl) ?hf30 (by kernel_rfl) ?hq30 ?hy30 hHeld ?rest30
  case hi30 => (simp only [List.getElem?_toArray, List.getElem?_cons_succ, List.getElem?_cons_zero]; try exact rfl)
  case hf30 => kernel_rfl
  case hq30 => exact fun _ _ _ h => h
  case hy30 => (refine Or.inl ⟨rfl, ?_⟩; intro w hSw; (try dsimp only at hSw); go_simp; try with_reducible rfl)
  try simp only [Act.put, List.setIfInBounds_toArray, List.set_cons_zero, List.set_cons_succ]
  refine wpAnyH_take (i := 31) (oi := ?oi31) (v := ?v31) ?hi31 (by kernel_rfl) ?hf31 (by kernel_rfl) ?hq31 ?hy31 hHeld ?rest31
  case hi31 => (simp only [List.getElem?_toArray, List.getElem?_cons_succ, List.getElem?_cons_zero]; try exact rfl)
  case hf31 => kernel_rfl
  case hq31 => exact fun _ _ _ h => h
  case hy31 => (refine Or.inl ⟨rfl, ?_⟩; intro w hSw; (try dsimp only at hSw); go_simp; try with_reducible rfl)
  try simp only [Act.put, List.setIfInBounds_toArray, List.set_cons_zero, List.set_cons_succ]
  refine wpAnyH_take (i := 32) (oi := ?oi32) (v := ?v32) ?hi32 (by kernel_rfl) ?hf32 (by kernel_rfl) ?hq32 ?hy32 hHeld ?rest32
  case hi32 => (simp only [List.getElem?_toArray, List.getElem?_cons_succ, List.getElem?_cons_zero]; try exact rfl)
  case hf32 => kernel_rfl
  case hq32 => exact fun _ _ _ h => h
  case hy32 => (refine Or.inl ⟨rfl, ?_⟩; intro w hSw; (try dsimp only at hSw); go_simp; try with_reducible rfl)
  try simp only [Act.put, List.setIfInBounds_toArray, List.set_cons_zero, List.set_cons_succ]
  refine wpAnyH_take (i := 33) (oi := ?oi33) (v := ?v33) ?hi33 (by kernel_rfl) ?hf33 (by kernel_rfl) ?hq33 ?hy33 hHeld ?rest33
  case hi33 => (simp only [List.getElem?_toArray, List.getElem?_cons_succ, List.getElem?_cons_zero]; try exact rfl)
  case hf33 => kernel_rfl
  case hq33 => exact fun _ _ _ h => h
  case hy33 => (refine Or.inl ⟨rfl, ?_⟩; intro w hSw; (try dsimp only at hSw); go_simp; try with_reducible rfl)
  try simp only [Act.put, List.setIfInBounds_toArray, List.set_cons_zero, List.set_cons_succ]
  refine wpAnyH_take (i := 34) (oi := ?oi34) (v := ?v34) ?hi34 (by kernel_rfl) ?hf34 (by kernel_rfl) ?hq34 ?hy34 hHeld ?rest34
  case hi34 => (simp only [List.getElem?_toArray, List.getElem?_cons_succ, List.getElem?_cons_zero]; try exact rfl)
  case hf34 => kernel_rfl
  case hq34 => exact fun _ _ _ h => h
  case hy34 => (refine Or.inl ⟨rfl, ?_⟩; intro w hSw; (try dsimp only at hSw); go_simp; try with_reducible rfl)
  try simp only [Act.put, List.setIfInBounds_toArray, List.set_cons_zero, List.set_cons_succ]
  refine wpAnyH_take (i := 35) (oi := ?oi35) (v := ?v35) ?hi35 (by kernel_rfl) ?hf35 (by kernel_rfl) ?hq35 ?hy35 hHeld ?rest35
  case hi35 => (simp only [List.getElem?_toArray, List.getElem?_cons_succ, List.getElem?_cons_zero]; try exact rfl)
  case hf35 => kernel_rfl
  case hq35 => exact fun _ _ _ h => h
  case hy35 => (refine Or.inl ⟨rfl, ?_⟩; intro w hSw; (try dsimp only at hSw); go_simp; try with_reducible rfl)
  try simp only [Act.put, List.setIfInBounds_toArray, List.set_cons_zero, List.set_cons_succ]
  refine wpAnyH_take (i := 36) (oi := ?oi36) (v := ?v36) ?hi36 (by kernel_rfl) ?hf36 (by kernel_rfl) ?hq36 ?hy36 hHeld ?rest36
  case hi36 => (simp only [List.getElem?_toArray, List.getElem?_cons_succ, List.getElem?_cons_zero]; try exact rfl)
  case hf36 => kernel_rfl
  case hq36 => exact fun _ _ _ h => h
  case hy36 => (refine Or.inl ⟨rfl, ?_⟩; intro w hSw; (try dsimp only at hSw); go_simp; try with_reducible rfl)
  try simp only [Act.put, List.setIfInBounds_toArray, List.set_cons_zero, List.set_cons_succ]
  refine wpAnyH_take (i := 37) (oi := ?oi37) (v := ?v37) ?hi37 (by kernel_rfl) ?hf37 (by kernel_rfl) ?hq37 ?hy37 hHeld ?rest37
  case hi37 => (simp only [List.getElem?_toArray, List.getElem?_cons_succ, List.getElem?_cons_zero]; try exact rfl)
  case hf37 => kernel_rfl
  case hq37 => exact fun _ _ _ h => h
  case hy37 => (refine Or.inl ⟨rfl, ?_⟩; intro w hSw; (try dsimp only at hSw); go_simp; try with_reducible rfl)
  try simp only [Act.put, List.setIfInBounds_toArray, List.set_cons_zero, List.set_cons_succ]
  refine wpAnyH_take (i := 38) (oi := ?oi38) (v := ?v38) ?hi38 (by kernel_rfl) ?hf38 (by kernel_rfl) ?hq38 ?hy38 hHeld ?rest38
  case hi38 => (simp only [List.getElem?_toArray, List.getElem?_cons_succ, List.getElem?_cons_zero]; try exact rfl)
  case hf38 => kernel_rfl
  case hq38 => exact fun _ _ _ h => h
  case hy38 => (refine Or.inl ⟨rfl, ?_⟩; intro w hSw; (try dsimp only at hSw); go_simp; try with_reducible rfl)
  try simp only [Act.put, List.setIfInBounds_toArray, List.set_cons_zero, List.set_cons_succ]
  refine wpAnyH_done (by kernel_rfl) ?_ _
  have W7 := Lib.hid (bt hb8 (bt hb7 (bt hb6 (bt hb5 W2.out.drew))))
  clear hb5 hb6 hb7 hb8 W2 hHeld
  cases hs : isS p q
  · have F := Lib.hid (show meanV p q = 0 ∧ meanE p q = 130 by unfold meanV meanE; rw [hs]; exact ⟨rfl, rfl⟩)
    have HS := Lib.hid hs
    clear hs
    go_wp2_with fail
    refine (Mean_any p q _ h2).mono ?_
    rintro e w9 ⟨rfl, hb9⟩
    rw [F.out.1, F.out.2]
    have m0 := cell_at_below hb9 _ _ _ kk80
    have m1 := cell_at_below hb9 _ _ _ kk81
    have W9 := Lib.hid (bt hb9 W7.out)
    clear hb9
    go_wp2_with fail
    refine (RSIs_any p q _ h2).mono ?_
    rintro e wA ⟨rfl, hbA⟩
    rw [HS.out]
    have WA := Lib.hid (bt hbA W9.out)
    clear hbA
    go_wp2
    go_ret
    exact ⟨rfl, WA.out⟩
  · have F := Lib.hid (show meanV p q = p / q ∧ meanE p q = 0 by unfold meanV meanE; rw [hs]; exact ⟨rfl, rfl⟩)
    obtain ⟨i1, i2, i3, i4, _⟩ := isS_true hs
    have hq0 : (q == 0) = false := by simpa using (by omega : q ≠ 0)
    have HS := Lib.hid hs
    clear hs
    go_wp2_with fail
    refine (Mean_any p q _ h2).mono ?_
    rintro e w9 ⟨rfl, hb9⟩
    rw [F.out.1, F.out.2]
    have m0 := cell_at_below hb9 _ _ _ kk80
    have m1 := cell_at_below hb9 _ _ _ kk81
    have W9 := Lib.hid (bt hb9 W7.out)
    clear hb9
    go_wp2_with fail
    refine (RSIs_any p q _ h2).mono ?_
    rintro e wA ⟨rfl, hbA⟩
    rw [HS.out]
    have m0 := cell_at_below hbA _ _ _ m0
    have m1 := cell_at_below hbA _ _ _ m1
    have WA := Lib.hid (bt hbA W9.out)
    clear hbA
    go_wp2
    go_ret
    exact ⟨rfl, WA.out⟩
theorem ScoreMakes_any (s t p q : Int) (w : World) (hG : G w) (h1 : (-9223372036854775808 ≤ s ∧ s ≤ 9223372036854775807) ∧ -9223372036854775808 ≤ t ∧ t ≤ 9223372036854775807) (h2 : Fit p q) :
    Calls Tryd.prog 6 #[.int .i64 s, .int .i64 t, .agg #[.int .i64 p, .int .i64 q]] w fun e w' => e = .returned (.bool true) ∧ Below w.heap.size w w' := by
  obtain ⟨x, y, z, ez, h⟩ := makesS s t
  rcases h with ⟨rfl, rfl, rfl⟩ | ⟨rfl, hr, hx, s0, s1, t0, t1⟩
  · exact ScoreMakes_no s t p q w hG h1 h2 ez
  · exact ScoreMakes_yes s t p q w hG h1 h2 x y ez hr hx s0 s1 t0 t1
end Go.Proofs.YtdpmijmofeechaaDoor.ScoMk
