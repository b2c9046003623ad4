/- The walks of package copseref03: part, Is, Of, Do. -/
import Derived.Test.YtdpmijmofeechaaDoorRatV
namespace Go.Proofs.YtdpmijmofeechaaDoor.RefRat
set_option linter.unusedVariables false
open Go.RowKit Base BigM BigW BigZ GcdW GcdM RatM RatW

theorem part_any (n : Int) (w : World) : Calls Tryd.prog 60 #[.int .i64 n] w fun e w' => e = .returned (.bool (!longB n)) ∧ w = w' := by
  by_cases h1 : 1073741824 < n
  · have HE := Lib.hid (show (!longB n) = false by rw [show longB n = true from decide_eq_true (by omega)]; rfl)
    go_enter Tryd.func60, Tryd.ntmps60
    go_wp2
    go_ret
    exact ⟨ret_bool (by rw [HE.out]; first | rfl | exact decide_eq_false (by omega)), rfl⟩
  · by_cases h2 : n < -1073741824
    · have HE := Lib.hid (show (!longB n) = false by rw [show longB n = true from decide_eq_true (by omega)]; rfl)
      go_enter Tryd.func60, Tryd.ntmps60
      go_wp2
      go_ret
      exact ⟨ret_bool HE.out.symm, rfl⟩
    · have HE := Lib.hid (show (!longB n) = true by rw [show longB n = false from decide_eq_false (by omega)]; rfl)
      go_enter Tryd.func60, Tryd.ntmps60
      go_wp2
      go_ret
      exact ⟨ret_bool HE.out.symm, rfl⟩

theorem isR_split (p q : Int) (h0 : -9223372036854775808 ≤ q) : (1 ≤ q ∧ longB p = false ∧ longB q = false ∧ isR p q = (gcdV p q == 1)) ∨ (isR p q = false ∧ (q < 1 ∨ (1 ≤ q ∧ longB p = true) ∨ (1 ≤ q ∧ longB p = false ∧ longB q = true))) := by
  by_cases hok : 1 ≤ q ∧ q ≤ 1073741824 ∧ -1073741824 ≤ p ∧ p ≤ 1073741824
  · exact .inl ⟨hok.1, decide_eq_false (by omega), decide_eq_false (by omega), (isR_g hok.1 hok.2.1 hok.2.2.1 hok.2.2.2).symm⟩
  · refine .inr ⟨isR_no hok, ?_⟩
    by_cases h1 : q < 1
    · exact .inl h1
    · by_cases h2 : p < -1073741824 ∨ 1073741824 < p
      · exact .inr (.inl ⟨by omega, decide_eq_true h2⟩)
      · exact .inr (.inr ⟨by omega, decide_eq_false h2, decide_eq_true (by omega)⟩)

set_option maxHeartbeats 1000000 in
theorem RIs_any (p q : Int) (w : World) (hf : Fit p q) :
    Calls Tryd.prog 18 #[.agg #[.int .i64 p, .int .i64 q]] w fun e w' => e = .returned (.bool (isR p q)) ∧ Below w.heap.size w w' := by
  obtain ⟨⟨p0, p1⟩, q0, q1⟩ := hf
  rcases isR_split p q q0 with ⟨h1, h2, h3, h4⟩ | ⟨hn, h | ⟨h1, h2⟩ | ⟨h1, h2, h3⟩⟩
  · have HE := Lib.hid h4
    clear h4
    go_enter Tryd.func18, Tryd.ntmps18
    go_wp2_with fail
    refine (RGcd_any p q _ p0 p1 q0 q1).mono ?_
    rintro e w1 ⟨rfl, hb1⟩
    obtain ⟨hc, hf⟩ := bcell hb1
    go_wp2_with (go_at_call 60; refine (part_any _ _).mono ?_; rintro e w' ⟨rfl, rfl⟩)
    go_ret
    exact ⟨ret_bool HE.out.symm, (below_alloc1 _ _).trans (hb1.mono (below_alloc1 _ _).size)⟩
  all_goals
    have HE := Lib.hid hn
    clear hn
    go_enter Tryd.func18, Tryd.ntmps18
    go_wp2_with fail
    refine (RGcd_any p q _ p0 p1 q0 q1).mono ?_
    rintro e w1 ⟨rfl, hb1⟩
    obtain ⟨hc, hf⟩ := bcell hb1
    go_wp2_with (go_at_call 60; refine (part_any _ _).mono ?_; rintro e w' ⟨rfl, rfl⟩)
    go_ret
    exact ⟨ret_bool HE.out.symm, (below_alloc1 _ _).trans (hb1.mono (below_alloc1 _ _).size)⟩

set_option maxHeartbeats 2000000 in
theorem ROf_any (p q : Int) (w : World) (hf : Fit p q) :
    Calls Tryd.prog 15 #[.int .i64 p, .int .i64 q] w fun e w' => e = .returned (.tuple #[.agg #[.int .i64 (ofR p q).1, .int .i64 (ofR p q).2.1], .int .i64 (ofR p q).2.2]) ∧ Below w.heap.size w w' := by
  obtain ⟨⟨p0, p1⟩, q0, q1⟩ := hf
  by_cases hz : q = 0
  · have HE := Lib.hid (ofR_zero p)
    subst hz
    go_enter Tryd.func15, Tryd.ntmps15
    go_wp2
    refine bodyPost_ret (v := .tuple #[.agg #[.int .i64 0, .int .i64 0], .int .i64 11]) (by simp [results, Tryd.results15, go_sem]) rfl ?_
    exact ⟨ret_rat HE.out.symm, below_alloc1 _ _⟩
  · have hz2 : (q == 0) = false := by simpa using hz
    by_cases hov : g p q ≤ 9223372036854775807
    · obtain ⟨G, hG⟩ : ∃ G, g p q = G := ⟨_, rfl⟩
      have HG := Lib.hid (show gcdV p q = G ∧ gcdE p q = 0 by rw [← hG]; exact gcd_in hov)
      have hG1 : 1 ≤ G := by rw [← hG]; exact g_pos hz
      have hx := tdiv_bd p G hG1 ⟨p0, p1⟩
      have hy := tdiv_bd q G hG1 ⟨q0, q1⟩
      rw [hG] at hov
      obtain ⟨x, ex⟩ : ∃ x, p.tdiv G = x := ⟨_, rfl⟩
      obtain ⟨y, ey⟩ : ∃ y, q.tdiv G = y := ⟨_, rfl⟩
      have hX : ofX p q = x := by unfold ofX; rw [hG, ex]
      have hY : ofY p q = y := by unfold ofY; rw [hG, ey]
      rw [ex] at hx
      rw [ey] at hy
      have HE0 : ∀ e : Bool, (longB x || longB y) = e → ofR p q = (if e then (0, 0, 10) else if y < 0 then (-x, -y, 0) else (x, y, 0)) := by
        intro e he
        cases e
        · by_cases hneg : y < 0
          · rw [ofR_neg hz (by rw [hX, hY]; exact he) (by rw [hY]; exact hneg), hX, hY]; simp [hneg]
          · rw [ofR_pos hz (by rw [hX, hY]; exact he) (by rw [hY]; exact hneg), hX, hY]; simp [hneg]
        · exact ofR_long hz (by rw [hX, hY]; exact he)
      have HE0 := Lib.hid HE0
      have EX := Lib.hid ex
      have EY := Lib.hid ey
      clear hG hz ex ey hX hY
      have hcase : (longB x = true) ∨ (longB x = false ∧ longB y = true) ∨ (longB x = false ∧ longB y = false ∧ y < 0 ∧ ¬(x < -1073741824 ∨ 1073741824 < x) ∧ ¬(y < -1073741824 ∨ 1073741824 < y)) ∨ (longB x = false ∧ longB y = false ∧ ¬y < 0) := by
        cases hx1 : longB x
        · cases hy1 : longB y
          · by_cases h : y < 0
            · exact .inr (.inr (.inl ⟨rfl, rfl, h, of_decide_eq_false hx1, of_decide_eq_false hy1⟩))
            · exact .inr (.inr (.inr ⟨rfl, rfl, h⟩))
          · exact .inr (.inl ⟨rfl, rfl⟩)
        · exact .inl rfl
      rcases hcase with hlx | ⟨hlx, hly⟩ | ⟨hlx, hly, hneg, hbx, hby⟩ | ⟨hlx, hly, hneg⟩
      · have HE := Lib.hid (HE0.out true (by rw [hlx]; rfl))
        go_enter Tryd.func15, Tryd.ntmps15
        go_wp2_with fail
        refine (RGcd_any p q _ p0 p1 q0 q1).mono ?_
        rintro e w1 ⟨rfl, hb1⟩
        rw [HG.out.1, HG.out.2]
        obtain ⟨j1, j2, j3, j4, j5⟩ := keepR hb1 (r := w.heap.size) (by go_simp; rfl) (by go_simp; rfl) (by go_simp) (by go_simp)
        go_wp2_with fail
        go_quiet (fail)
        rw [EX.out, EY.out]
        go_wp2_with (go_at_call 60; refine (part_any _ _).mono ?_; rintro e w' ⟨rfl, rfl⟩)
        refine bodyPost_ret (v := .tuple #[.agg #[.int .i64 0, .int .i64 0], .int .i64 10]) (by simp [results, Tryd.results15, go_sem, j1, j2]) rfl ?_
        exact ⟨ret_rat HE.out.symm, below_set1 (below_drewN ((below_alloc1 _ _).trans (hb1.mono (below_alloc1 _ _).size)) _) (Nat.le_refl _) _ _ _ _⟩
      · have HE := Lib.hid (HE0.out true (by rw [hlx, hly]; rfl))
        go_enter Tryd.func15, Tryd.ntmps15
        go_wp2_with fail
        refine (RGcd_any p q _ p0 p1 q0 q1).mono ?_
        rintro e w1 ⟨rfl, hb1⟩
        rw [HG.out.1, HG.out.2]
        obtain ⟨j1, j2, j3, j4, j5⟩ := keepR hb1 (r := w.heap.size) (by go_simp; rfl) (by go_simp; rfl) (by go_simp) (by go_simp)
        go_wp2_with fail
        go_quiet (fail)
        rw [EX.out, EY.out]
        go_wp2_with (go_at_call 60; refine (part_any _ _).mono ?_; rintro e w' ⟨rfl, rfl⟩)
        refine bodyPost_ret (v := .tuple #[.agg #[.int .i64 0, .int .i64 0], .int .i64 10]) (by simp [results, Tryd.results15, go_sem, j1, j2]) rfl ?_
        exact ⟨ret_rat HE.out.symm, below_set1 (below_drewN ((below_alloc1 _ _).trans (hb1.mono (below_alloc1 _ _).size)) _) (Nat.le_refl _) _ _ _ _⟩
      · have HE := Lib.hid (show ofR p q = (-x, -y, 0) by have := HE0.out false (by rw [hlx, hly]; rfl); simpa [hneg] using this)
        go_enter Tryd.func15, Tryd.ntmps15
        go_wp2_with fail
        refine (RGcd_any p q _ p0 p1 q0 q1).mono ?_
        rintro e w1 ⟨rfl, hb1⟩
        rw [HG.out.1, HG.out.2]
        obtain ⟨j1, j2, j3, j4, j5⟩ := keepR hb1 (r := w.heap.size) (by go_simp; rfl) (by go_simp; rfl) (by go_simp) (by go_simp)
        go_wp2_with fail
        go_quiet (fail)
        rw [EX.out, EY.out]
        go_wp2_with (go_at_call 60; refine (part_any _ _).mono ?_; rintro e w' ⟨rfl, rfl⟩)
        refine bodyPost_ret (v := .tuple #[.agg #[.int .i64 (-x), .int .i64 (-y)], .int .i64 0]) (by simp [results, Tryd.results15, go_sem, j1, j2]) rfl ?_
        exact ⟨ret_rat HE.out.symm, below_set1 (below_drewN ((below_alloc1 _ _).trans (hb1.mono (below_alloc1 _ _).size)) _) (Nat.le_refl _) _ _ _ _⟩
      · have HE := Lib.hid (show ofR p q = (x, y, 0) by have := HE0.out false (by rw [hlx, hly]; rfl); simpa [hneg] using this)
        go_enter Tryd.func15, Tryd.ntmps15
        go_wp2_with fail
        refine (RGcd_any p q _ p0 p1 q0 q1).mono ?_
        rintro e w1 ⟨rfl, hb1⟩
        rw [HG.out.1, HG.out.2]
        obtain ⟨j1, j2, j3, j4, j5⟩ := keepR hb1 (r := w.heap.size) (by go_simp; rfl) (by go_simp; rfl) (by go_simp) (by go_simp)
        go_wp2_with fail
        go_quiet (fail)
        rw [EX.out, EY.out]
        go_wp2_with (go_at_call 60; refine (part_any _ _).mono ?_; rintro e w' ⟨rfl, rfl⟩)
        refine bodyPost_ret (v := .tuple #[.agg #[.int .i64 x, .int .i64 y], .int .i64 0]) (by simp [results, Tryd.results15, go_sem, j1, j2]) rfl ?_
        exact ⟨ret_rat HE.out.symm, below_set1 (below_drewN ((below_alloc1 _ _).trans (hb1.mono (below_alloc1 _ _).size)) _) (Nat.le_refl _) _ _ _ _⟩
    · have HG := Lib.hid (show gcdV p q = 0 ∧ gcdE p q = 10 from fits_out (by omega))
      by_cases hp : p = 0
      · subst hp
        have HE := Lib.hid (ofR_over0 ⟨q0, q1⟩ hz hov)
        clear hov hz
        go_enter Tryd.func15, Tryd.ntmps15
        go_wp2_with fail
        refine (RGcd_any 0 q _ p0 p1 q0 q1).mono ?_
        rintro e w1 ⟨rfl, hb1⟩
        rw [HG.out.1, HG.out.2]
        obtain ⟨j1, j2, j3, j4, j5⟩ := keepR hb1 (r := w.heap.size) (by go_simp; rfl) (by go_simp; rfl) (by go_simp) (by go_simp)
        go_wp2
        refine bodyPost_ret (v := .tuple #[.agg #[.int .i64 0, .int .i64 1], .int .i64 0]) (by simp [results, Tryd.results15, go_sem, j1, j2]) rfl ?_
        exact ⟨ret_rat HE.out.symm, below_set1 ((below_alloc1 _ _).trans (hb1.mono (below_alloc1 _ _).size)) (Nat.le_refl _) _ _ _ _⟩
      · have HE := Lib.hid (ofR_over1 ⟨p0, p1⟩ ⟨q0, q1⟩ hz hov hp)
        have hp2 : (p == 0) = false := by simpa using hp
        clear hov hz hp
        go_enter Tryd.func15, Tryd.ntmps15
        go_wp2_with fail
        refine (RGcd_any p q _ p0 p1 q0 q1).mono ?_
        rintro e w1 ⟨rfl, hb1⟩
        rw [HG.out.1, HG.out.2]
        obtain ⟨j1, j2, j3, j4, j5⟩ := keepR hb1 (r := w.heap.size) (by go_simp; rfl) (by go_simp; rfl) (by go_simp) (by go_simp)
        go_wp2
        refine bodyPost_ret (v := .tuple #[.agg #[.int .i64 1, .int .i64 1], .int .i64 0]) (by simp [results, Tryd.results15, go_sem, j1, j2]) rfl ?_
        exact ⟨ret_rat HE.out.symm, below_set1 ((below_alloc1 _ _).trans (hb1.mono (below_alloc1 _ _).size)) (Nat.le_refl _) _ _ _ _⟩
end Go.Proofs.YtdpmijmofeechaaDoor.RefRat
