/- The walks of package ratio: both, Of, Add. -/
import Derived.Test.YtdpmijmofeechaaDoorRatW
namespace Go.Proofs.YtdpmijmofeechaaDoor.RatW
set_option linter.unusedVariables false
open Go.RowKit Base BigM BigW BigZ GcdM RatM

/-- A pair of ints, and what fits. -/
def Fit (p q : Int) : Prop := (-9223372036854775808 ≤ p ∧ p ≤ 9223372036854775807) ∧ (-9223372036854775808 ≤ q ∧ q ≤ 9223372036854775807)

set_option maxHeartbeats 1000000 in
theorem both_any (p q r s : Int) (w : World) (h1 : Fit p q) (h2 : Fit r s) :
    Calls Tryd.prog 83 #[.agg #[.int .i64 p, .int .i64 q], .agg #[.int .i64 r, .int .i64 s]] w fun e w' => e = .returned (.int .i64 (bothE p q r s)) ∧ Below w.heap.size w w' := by
  obtain ⟨⟨a0, a1⟩, b0, b1⟩ := h1
  obtain ⟨⟨c0, c1⟩, d0, d1⟩ := h2
  by_cases h : isR p q = true
  · by_cases h' : isR r s = true
    · have HE := Lib.hid (show bothE p q r s = 0 by unfold bothE; rw [h, h']; rfl)
      go_enter Tryd.func83, Tryd.ntmps83
      go_wp2_with fail
      refine (Is_any p q _ a0 a1 b0 b1).mono ?_
      rintro e w1 ⟨rfl, hb1⟩
      obtain ⟨hc, hf⟩ := bcell hb1
      go_wp2_with fail
      refine (Is_any r s _ c0 c1 d0 d1).mono ?_
      rintro e w2 ⟨rfl, hb2⟩
      go_wp2
      go_ret
      exact ⟨ret_int HE.out.symm, (below_alloc2 _ _ _).trans ((hb1.trans (hb2.mono hb1.size)).mono (below_alloc2 _ _ _).size)⟩
    · have h2 : isR r s = false := by simpa using h'
      clear h'
      have HE := Lib.hid (show bothE p q r s = 30 by unfold bothE; rw [h, h2]; rfl)
      go_enter Tryd.func83, Tryd.ntmps83
      go_wp2_with fail
      refine (Is_any p q _ a0 a1 b0 b1).mono ?_
      rintro e w1 ⟨rfl, hb1⟩
      obtain ⟨hc, hf⟩ := bcell hb1
      go_wp2_with fail
      refine (Is_any r s _ c0 c1 d0 d1).mono ?_
      rintro e w2 ⟨rfl, hb2⟩
      go_wp2
      go_ret
      exact ⟨ret_int HE.out.symm, (below_alloc2 _ _ _).trans ((hb1.trans (hb2.mono hb1.size)).mono (below_alloc2 _ _ _).size)⟩
  · have h2 : isR p q = false := by simpa using h
    clear h
    have HE := Lib.hid (show bothE p q r s = 30 by unfold bothE; rw [h2]; rfl)
    go_enter Tryd.func83, Tryd.ntmps83
    go_wp2_with fail
    refine (Is_any p q _ a0 a1 b0 b1).mono ?_
    rintro e w1 ⟨rfl, hb1⟩
    go_wp2
    go_ret
    exact ⟨ret_int HE.out.symm, (below_alloc2 _ _ _).trans (hb1.mono (below_alloc2 _ _ _).size)⟩

theorem long_any (n : Int) (w : World) : Calls Tryd.prog 58 #[.int .i64 n] w fun e w' => e = .returned (.bool (longB n)) ∧ w = w' := by
  by_cases h1 : 1073741824 < n
  · have HE := Lib.hid (show longB n = true from decide_eq_true (by omega))
    go_enter Tryd.func58, Tryd.ntmps58
    go_wp2
    go_ret
    exact ⟨ret_bool HE.out.symm, rfl⟩
  · by_cases h2 : n < -1073741824
    · have HE := Lib.hid (show longB n = true from decide_eq_true (by omega))
      go_enter Tryd.func58, Tryd.ntmps58
      go_wp2
      go_ret
      exact ⟨ret_bool HE.out.symm, rfl⟩
    · have HE := Lib.hid (show longB n = false from decide_eq_false (by omega))
      go_enter Tryd.func58, Tryd.ntmps58
      go_wp2
      go_ret
      exact ⟨ret_bool HE.out.symm, rfl⟩

theorem ret_rat {a b c x y z : Int} (h : (x, y, z) = (a, b, c)) : Ending.returned (.tuple #[.agg #[.int .i64 x, .int .i64 y], .int .i64 z]) = .returned (.tuple #[.agg #[.int .i64 a, .int .i64 b], .int .i64 c]) := by
  simp only [Prod.mk.injEq] at h
  obtain ⟨rfl, rfl, rfl⟩ := h
  rfl
theorem below_set1 {w W : World} (h : Below w.heap.size w W) {r : Nat} (hr : w.heap.size ≤ r) (v0 v1 : Value) (o0 o1 : Nat) : Below w.heap.size w ((W.setCell ⟨r, o0, none⟩ v0).setCell ⟨r, o1, none⟩ v1) := (h.setCell hr v0).setCell hr v1

set_option maxHeartbeats 2000000 in
theorem Of_any (p q : Int) (w : World) (hf : Fit p q) :
    Calls Tryd.prog 14 #[.int .i64 p, .int .i64 q] w fun e w' => e = .returned (.tuple #[.agg #[.int .i64 (ofR p q).1, .int .i64 (ofR p q).2.1], .int .i64 (ofR p q).2.2]) ∧ Below w.heap.size w w' := by
  obtain ⟨⟨p0, p1⟩, q0, q1⟩ := hf
  by_cases hz : q = 0
  · have HE := Lib.hid (ofR_zero p)
    subst hz
    go_enter Tryd.func14, Tryd.ntmps14
    go_wp2
    refine bodyPost_ret (v := .tuple #[.agg #[.int .i64 0, .int .i64 0], .int .i64 11]) (by simp [results, Tryd.results14, go_sem]) rfl ?_
    exact ⟨ret_rat HE.out.symm, below_alloc1 _ _⟩
  · have hz2 : (q == 0) = false := by simpa using hz
    by_cases hov : g p q ≤ 9223372036854775807
    · obtain ⟨G, hG⟩ : ∃ G, g p q = G := ⟨_, rfl⟩
      have HG := Lib.hid (show gcdV p q = G ∧ gcdE p q = 0 by rw [← hG]; exact gcd_in hov)
      have hG1 : 1 ≤ G := by rw [← hG]; exact g_pos hz
      have hx := tdiv_bd p G hG1 ⟨p0, p1⟩
      have hy := tdiv_bd q G hG1 ⟨q0, q1⟩
      rw [hG] at hov
      obtain ⟨x, ex⟩ : ∃ x, p.tdiv G = x := ⟨_, rfl⟩
      obtain ⟨y, ey⟩ : ∃ y, q.tdiv G = y := ⟨_, rfl⟩
      have hX : ofX p q = x := by unfold ofX; rw [hG, ex]
      have hY : ofY p q = y := by unfold ofY; rw [hG, ey]
      rw [ex] at hx
      rw [ey] at hy
      have HZ := Lib.hid hz
      have HX := Lib.hid hX
      have HY := Lib.hid hY
      have EX := Lib.hid ex
      have EY := Lib.hid ey
      clear hG hz ex ey hX hY
      by_cases hl : (longB x || longB y) = true
      · have HE := Lib.hid (show ofR p q = (0, 0, 10) from ofR_long HZ.out (by rw [HX.out, HY.out]; exact hl))
        by_cases hlx : longB x = true
        · clear hl
          go_enter Tryd.func14, Tryd.ntmps14
          go_wp2_with fail
          refine (Gcd_any p q _ p0 p1 q0 q1).mono ?_
          rintro e w1 ⟨rfl, k, rfl⟩
          rw [HG.out.1, HG.out.2]
          go_wp2_with fail
          go_quiet (fail)
          rw [EX.out, EY.out]
          go_wp2_with (go_at_call 58; refine (long_any _ _).mono ?_; rintro e w' ⟨rfl, rfl⟩)
          refine bodyPost_ret (v := .tuple #[.agg #[.int .i64 0, .int .i64 0], .int .i64 10]) (by simp [results, Tryd.results14, go_sem]) rfl ?_
          exact ⟨ret_rat HE.out.symm, below_set1 (below_drewN (below_alloc1 _ _) _) (Nat.le_refl _) _ _ _ _⟩
        · have hlx2 : longB x = false := by simpa using hlx
          have hly : longB y = true := by rw [hlx2] at hl; simpa using hl
          clear hl hlx
          go_enter Tryd.func14, Tryd.ntmps14
          go_wp2_with fail
          refine (Gcd_any p q _ p0 p1 q0 q1).mono ?_
          rintro e w1 ⟨rfl, k, rfl⟩
          rw [HG.out.1, HG.out.2]
          go_wp2_with fail
          go_quiet (fail)
          rw [EX.out, EY.out]
          go_wp2_with (go_at_call 58; refine (long_any _ _).mono ?_; rintro e w' ⟨rfl, rfl⟩)
          refine bodyPost_ret (v := .tuple #[.agg #[.int .i64 0, .int .i64 0], .int .i64 10]) (by simp [results, Tryd.results14, go_sem]) rfl ?_
          exact ⟨ret_rat HE.out.symm, below_set1 (below_drewN (below_alloc1 _ _) _) (Nat.le_refl _) _ _ _ _⟩
      · have hl2 : (longB x || longB y) = false := by simpa using hl
        have hlx : longB x = false := by cases h : longB x <;> simp [h] at hl2 ⊢
        have hly : longB y = false := by cases h : longB y <;> simp [h] at hl2 ⊢
        have hbx : ¬(x < -1073741824 ∨ 1073741824 < x) := of_decide_eq_false hlx
        have hby : ¬(y < -1073741824 ∨ 1073741824 < y) := of_decide_eq_false hly
        have HL := Lib.hid hl2
        clear hl hl2
        by_cases hneg : y < 0
        · have HE := Lib.hid (show ofR p q = (-x, -y, 0) by rw [ofR_neg HZ.out (by rw [HX.out, HY.out]; exact HL.out) (by rw [HY.out]; exact hneg), HX.out, HY.out])
          go_enter Tryd.func14, Tryd.ntmps14
          go_wp2_with fail
          refine (Gcd_any p q _ p0 p1 q0 q1).mono ?_
          rintro e w1 ⟨rfl, k, rfl⟩
          rw [HG.out.1, HG.out.2]
          go_wp2_with fail
          go_quiet (fail)
          rw [EX.out, EY.out]
          go_wp2_with (go_at_call 58; refine (long_any _ _).mono ?_; rintro e w' ⟨rfl, rfl⟩)
          refine bodyPost_ret (v := .tuple #[.agg #[.int .i64 (-x), .int .i64 (-y)], .int .i64 0]) (by simp [results, Tryd.results14, go_sem]) rfl ?_
          exact ⟨ret_rat HE.out.symm, below_set1 (below_drewN (below_alloc1 _ _) _) (Nat.le_refl _) _ _ _ _⟩
        · have HE := Lib.hid (show ofR p q = (x, y, 0) by rw [ofR_pos HZ.out (by rw [HX.out, HY.out]; exact HL.out) (by rw [HY.out]; exact hneg), HX.out, HY.out])
          go_enter Tryd.func14, Tryd.ntmps14
          go_wp2_with fail
          refine (Gcd_any p q _ p0 p1 q0 q1).mono ?_
          rintro e w1 ⟨rfl, k, rfl⟩
          rw [HG.out.1, HG.out.2]
          go_wp2_with fail
          go_quiet (fail)
          rw [EX.out, EY.out]
          go_wp2_with (go_at_call 58; refine (long_any _ _).mono ?_; rintro e w' ⟨rfl, rfl⟩)
          refine bodyPost_ret (v := .tuple #[.agg #[.int .i64 x, .int .i64 y], .int .i64 0]) (by simp [results, Tryd.results14, go_sem]) rfl ?_
          exact ⟨ret_rat HE.out.symm, below_set1 (below_drewN (below_alloc1 _ _) _) (Nat.le_refl _) _ _ _ _⟩
    · have HG := Lib.hid (show gcdV p q = 0 ∧ gcdE p q = 10 from fits_out (by omega))
      by_cases hp : p = 0
      · subst hp
        have HE := Lib.hid (ofR_over0 ⟨q0, q1⟩ hz hov)
        clear hov hz
        go_enter Tryd.func14, Tryd.ntmps14
        go_wp2_with fail
        refine (Gcd_any 0 q _ p0 p1 q0 q1).mono ?_
        rintro e w1 ⟨rfl, k, rfl⟩
        rw [HG.out.1, HG.out.2]
        go_wp2
        refine bodyPost_ret (v := .tuple #[.agg #[.int .i64 0, .int .i64 1], .int .i64 0]) (by simp [results, Tryd.results14, go_sem]) rfl ?_
        exact ⟨ret_rat HE.out.symm, below_set1 (below_drewN (below_alloc1 _ _) _) (Nat.le_refl _) _ _ _ _⟩
      · have HE := Lib.hid (ofR_over1 ⟨p0, p1⟩ ⟨q0, q1⟩ hz hov hp)
        have hp2 : (p == 0) = false := by simpa using hp
        clear hov hz hp
        go_enter Tryd.func14, Tryd.ntmps14
        go_wp2_with fail
        refine (Gcd_any p q _ p0 p1 q0 q1).mono ?_
        rintro e w1 ⟨rfl, k, rfl⟩
        rw [HG.out.1, HG.out.2]
        go_wp2
        refine bodyPost_ret (v := .tuple #[.agg #[.int .i64 1, .int .i64 1], .int .i64 0]) (by simp [results, Tryd.results14, go_sem]) rfl ?_
        exact ⟨ret_rat HE.out.symm, below_set1 (below_drewN (below_alloc1 _ _) _) (Nat.le_refl _) _ _ _ _⟩

theorem addR_bad {p q r s : Int} (h : ¬(isR p q && isR r s) = true) : addR p q r s = (0, 0, 30) := by unfold addR; rw [if_neg h]
theorem addR_ok {p q r s : Int} (h : (isR p q && isR r s) = true) : addR p q r s = ofR (p * s + r * q) (q * s) := by unfold addR; rw [if_pos h]
set_option maxHeartbeats 2000000 in
theorem Add_any (p q r s : Int) (w : World) (h1 : Fit p q) (h2 : Fit r s) :
    Calls Tryd.prog 44 #[.agg #[.int .i64 p, .int .i64 q], .agg #[.int .i64 r, .int .i64 s]] w fun e w' => e = .returned (.tuple #[.agg #[.int .i64 (addR p q r s).1, .int .i64 (addR p q r s).2.1], .int .i64 (addR p q r s).2.2]) ∧ Below w.heap.size w w' := by
  by_cases h : (isR p q && isR r s) = true
  · have HB := Lib.hid (show bothE p q r s = 0 by unfold bothE; rw [if_pos h])
    have HE := Lib.hid (addR_ok h)
    have h' := h
    rw [Bool.and_eq_true] at h'
    obtain ⟨x1, x2, x3, x4, _⟩ := isR_true h'.1
    obtain ⟨y1, y2, y3, y4, _⟩ := isR_true h'.2
    clear h h'
    have m1 := mul60 (a := p) (b := s) ⟨x3, x4⟩ ⟨by omega, y2⟩
    have m2 := mul60 (a := r) (b := q) ⟨y3, y4⟩ ⟨by omega, x2⟩
    have m3 := mul60 (a := q) (b := s) ⟨by omega, x2⟩ ⟨by omega, y2⟩
    go_enter Tryd.func44, Tryd.ntmps44
    go_wp2_with fail
    refine (both_any p q r s _ h1 h2).mono ?_
    rintro e w1 ⟨rfl, hb1⟩
    rw [HB.out]
    obtain ⟨k1, k2, k3, k4, k5, k6, k7, k8, k9⟩ := keep3 0 hb1
    go_wp2_with fail
    refine (Of_any _ _ _ ⟨⟨by omega, by omega⟩, by omega, by omega⟩).mono ?_
    rintro e w2 ⟨rfl, hb2⟩
    obtain ⟨j1, j2, j3, j4, j5⟩ := keepR hb2 k5 k6 k7 k8
    go_wp2
    refine bodyPost_ret (v := .tuple #[.agg #[.int .i64 (ofR (p * s + r * q) (q * s)).1, .int .i64 (ofR (p * s + r * q) (q * s)).2.1], .int .i64 (ofR (p * s + r * q) (q * s)).2.2]) (by simp [results, Tryd.results44, go_sem, j1, j2]) rfl ?_
    exact ⟨by rw [HE.out], below_set1 ((below_alloc3 _ _ _ _).trans ((hb1.trans (hb2.mono hb1.size)).mono (below_alloc3 _ _ _ _).size)) (by omega) _ _ _ _⟩
  · have HB := Lib.hid (show bothE p q r s = 30 by unfold bothE; rw [if_neg h])
    have HE := Lib.hid (addR_bad h)
    clear h
    go_enter Tryd.func44, Tryd.ntmps44
    go_wp2_with fail
    refine (both_any p q r s _ h1 h2).mono ?_
    rintro e w1 ⟨rfl, hb1⟩
    rw [HB.out]
    obtain ⟨k1, k2, k3, k4, k5, k6, k7, k8, k9⟩ := keep3 0 hb1
    go_wp2
    refine bodyPost_ret (v := .tuple #[.agg #[.int .i64 0, .int .i64 0], .int .i64 30]) (by simp [results, Tryd.results44, go_sem, k5, k6]) rfl ?_
    exact ⟨ret_rat HE.out.symm, below_set1 ((below_alloc3 _ _ _ _).trans (hb1.mono (below_alloc3 _ _ _ _).size)) (by omega) _ _ _ _⟩
end Go.Proofs.YtdpmijmofeechaaDoor.RatW
