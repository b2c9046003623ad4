/- The walks of copseref03.Do and copseref03.Order. -/
import Derived.Test.YtdpmijmofeechaaDoorRefRat
namespace Go.Proofs.YtdpmijmofeechaaDoor.RefRat
set_option linter.unusedVariables false
open Go.RowKit Base BigM BigW BigZ GcdW GcdM RatM RatW

set_option maxHeartbeats 4000000 in
theorem Do_any (k p q r s : Int) (w : World) (hk : k = 0 ∨ k = 1 ∨ k = 2 ∨ k = 3) (h1 : Fit p q) (h2 : Fit r s) :
    Calls Tryd.prog 45 #[.int .i64 k, .agg #[.int .i64 p, .int .i64 q], .agg #[.int .i64 r, .int .i64 s]] w fun e w' => e = .returned (.tuple #[.agg #[.int .i64 (doR k p q r s).1, .int .i64 (doR k p q r s).2.1], .int .i64 (doR k p q r s).2.2]) ∧ Below w.heap.size w w' := by
  by_cases h : isR p q = true
  · by_cases h' : isR r s = true
    · have hok : (isR p q && isR r s) = true := by rw [h, h']; rfl
      have HE := Lib.hid (doR_ok (k := k) hok)
      obtain ⟨x1, x2, x3, x4, _⟩ := isR_true h
      obtain ⟨y1, y2, y3, y4, _⟩ := isR_true h'
      have m1 := mul60 (a := p) (b := s) ⟨x3, x4⟩ ⟨by omega, y2⟩
      have m2 := mul60 (a := r) (b := q) ⟨y3, y4⟩ ⟨by omega, x2⟩
      have m3 := mul60 (a := q) (b := s) ⟨by omega, x2⟩ ⟨by omega, y2⟩
      have m4 := mul60 (a := p) (b := r) ⟨x3, x4⟩ ⟨y3, y4⟩
      have m5 := mul60 (a := q) (b := r) ⟨by omega, x2⟩ ⟨y3, y4⟩
      clear hok
      rcases hk with rfl | rfl | rfl | rfl
      · go_enter Tryd.func45, Tryd.ntmps45
        go_wp2_with fail
        refine (RIs_any p q _ h1).mono ?_
        rintro e w1 ⟨rfl, hb1⟩
        obtain ⟨k1, k2, k3, k4, k5, k6, k7, k8, k9⟩ := keep3 0 hb1
        go_wp2_with fail
        refine (RIs_any r s _ h2).mono ?_
        rintro e w2 ⟨rfl, hb2⟩
        obtain ⟨i1, i2, i3, i4, i5⟩ := keepR hb2 k5 k6 k7 k8
        have c1 := cell_at_below hb2 _ _ _ k1
        have c2 := cell_at_below hb2 _ _ _ k2
        have c3 := cell_at_below hb2 _ _ _ k3
        have c4 := cell_at_below hb2 _ _ _ k4
        go_wp2_with fail
        refine (ROf_any _ _ _ ⟨⟨by omega, by omega⟩, by omega, by omega⟩).mono ?_
        rintro e w3 ⟨rfl, hb3⟩
        obtain ⟨j1, j2, j3, j4, j5⟩ := keepR hb3 i1 i2 i3 i4
        have hbb := (below_alloc3 w (.cells #[.int .i64 p, .int .i64 q] 23) (.cells #[.int .i64 r, .int .i64 s] 23) (.cells #[.int .i64 0, .int .i64 0] 23)).trans ((hb1.trans ((hb2.trans (hb3.mono hb2.size)).mono hb1.size)).mono (below_alloc3 _ _ _ _).size)
        go_wp2
        refine bodyPost_ret (v := .tuple #[.agg #[.int .i64 (ofR (p * s + r * q) (q * s)).1, .int .i64 (ofR (p * s + r * q) (q * s)).2.1], .int .i64 (ofR (p * s + r * q) (q * s)).2.2]) (by simp [results, Tryd.results45, go_sem, j1, j2]) rfl ?_
        exact ⟨by rw [HE.out]; rfl, below_set1 hbb (by omega) _ _ _ _⟩
      · go_enter Tryd.func45, Tryd.ntmps45
        go_wp2_with fail
        refine (RIs_any p q _ h1).mono ?_
        rintro e w1 ⟨rfl, hb1⟩
        obtain ⟨k1, k2, k3, k4, k5, k6, k7, k8, k9⟩ := keep3 0 hb1
        go_wp2_with fail
        refine (RIs_any r s _ h2).mono ?_
        rintro e w2 ⟨rfl, hb2⟩
        obtain ⟨i1, i2, i3, i4, i5⟩ := keepR hb2 k5 k6 k7 k8
        have c1 := cell_at_below hb2 _ _ _ k1
        have c2 := cell_at_below hb2 _ _ _ k2
        have c3 := cell_at_below hb2 _ _ _ k3
        have c4 := cell_at_below hb2 _ _ _ k4
        go_wp2_with fail
        refine (ROf_any _ _ _ ⟨⟨by omega, by omega⟩, by omega, by omega⟩).mono ?_
        rintro e w3 ⟨rfl, hb3⟩
        obtain ⟨j1, j2, j3, j4, j5⟩ := keepR hb3 i1 i2 i3 i4
        have hbb := (below_alloc3 w (.cells #[.int .i64 p, .int .i64 q] 23) (.cells #[.int .i64 r, .int .i64 s] 23) (.cells #[.int .i64 0, .int .i64 0] 23)).trans ((hb1.trans ((hb2.trans (hb3.mono hb2.size)).mono hb1.size)).mono (below_alloc3 _ _ _ _).size)
        go_wp2
        refine bodyPost_ret (v := .tuple #[.agg #[.int .i64 (ofR (p * s - r * q) (q * s)).1, .int .i64 (ofR (p * s - r * q) (q * s)).2.1], .int .i64 (ofR (p * s - r * q) (q * s)).2.2]) (by simp [results, Tryd.results45, go_sem, j1, j2]) rfl ?_
        exact ⟨by rw [HE.out]; rfl, below_set1 hbb (by omega) _ _ _ _⟩
      · go_enter Tryd.func45, Tryd.ntmps45
        go_wp2_with fail
        refine (RIs_any p q _ h1).mono ?_
        rintro e w1 ⟨rfl, hb1⟩
        obtain ⟨k1, k2, k3, k4, k5, k6, k7, k8, k9⟩ := keep3 0 hb1
        go_wp2_with fail
        refine (RIs_any r s _ h2).mono ?_
        rintro e w2 ⟨rfl, hb2⟩
        obtain ⟨i1, i2, i3, i4, i5⟩ := keepR hb2 k5 k6 k7 k8
        have c1 := cell_at_below hb2 _ _ _ k1
        have c2 := cell_at_below hb2 _ _ _ k2
        have c3 := cell_at_below hb2 _ _ _ k3
        have c4 := cell_at_below hb2 _ _ _ k4
        go_wp2_with fail
        refine (ROf_any _ _ _ ⟨⟨by omega, by omega⟩, by omega, by omega⟩).mono ?_
        rintro e w3 ⟨rfl, hb3⟩
        obtain ⟨j1, j2, j3, j4, j5⟩ := keepR hb3 i1 i2 i3 i4
        have hbb := (below_alloc3 w (.cells #[.int .i64 p, .int .i64 q] 23) (.cells #[.int .i64 r, .int .i64 s] 23) (.cells #[.int .i64 0, .int .i64 0] 23)).trans ((hb1.trans ((hb2.trans (hb3.mono hb2.size)).mono hb1.size)).mono (below_alloc3 _ _ _ _).size)
        go_wp2
        refine bodyPost_ret (v := .tuple #[.agg #[.int .i64 (ofR (p * r) (q * s)).1, .int .i64 (ofR (p * r) (q * s)).2.1], .int .i64 (ofR (p * r) (q * s)).2.2]) (by simp [results, Tryd.results45, go_sem, j1, j2]) rfl ?_
        exact ⟨by rw [HE.out]; rfl, below_set1 hbb (by omega) _ _ _ _⟩
      · go_enter Tryd.func45, Tryd.ntmps45
        go_wp2_with fail
        refine (RIs_any p q _ h1).mono ?_
        rintro e w1 ⟨rfl, hb1⟩
        obtain ⟨k1, k2, k3, k4, k5, k6, k7, k8, k9⟩ := keep3 0 hb1
        go_wp2_with fail
        refine (RIs_any r s _ h2).mono ?_
        rintro e w2 ⟨rfl, hb2⟩
        obtain ⟨i1, i2, i3, i4, i5⟩ := keepR hb2 k5 k6 k7 k8
        have c1 := cell_at_below hb2 _ _ _ k1
        have c2 := cell_at_below hb2 _ _ _ k2
        have c3 := cell_at_below hb2 _ _ _ k3
        have c4 := cell_at_below hb2 _ _ _ k4
        go_wp2_with fail
        refine (ROf_any _ _ _ ⟨⟨by omega, by omega⟩, by omega, by omega⟩).mono ?_
        rintro e w3 ⟨rfl, hb3⟩
        obtain ⟨j1, j2, j3, j4, j5⟩ := keepR hb3 i1 i2 i3 i4
        have hbb := (below_alloc3 w (.cells #[.int .i64 p, .int .i64 q] 23) (.cells #[.int .i64 r, .int .i64 s] 23) (.cells #[.int .i64 0, .int .i64 0] 23)).trans ((hb1.trans ((hb2.trans (hb3.mono hb2.size)).mono hb1.size)).mono (below_alloc3 _ _ _ _).size)
        go_wp2
        refine bodyPost_ret (v := .tuple #[.agg #[.int .i64 (ofR (p * s) (q * r)).1, .int .i64 (ofR (p * s) (q * r)).2.1], .int .i64 (ofR (p * s) (q * r)).2.2]) (by simp [results, Tryd.results45, go_sem, j1, j2]) rfl ?_
        exact ⟨by rw [HE.out]; rfl, below_set1 hbb (by omega) _ _ _ _⟩
    · have hr : isR r s = false := by simpa using h'
      have HE := Lib.hid (doR_bad (k := k) (p := p) (q := q) (r := r) (s := s) (by rw [h, hr]; decide))
      clear h'
      go_enter Tryd.func45, Tryd.ntmps45
      go_wp2_with fail
      refine (RIs_any p q _ h1).mono ?_
      rintro e w1 ⟨rfl, hb1⟩
      obtain ⟨k1, k2, k3, k4, k5, k6, k7, k8, k9⟩ := keep3 0 hb1
      go_wp2_with fail
      refine (RIs_any r s _ h2).mono ?_
      rintro e w2 ⟨rfl, hb2⟩
      obtain ⟨i1, i2, i3, i4, i5⟩ := keepR hb2 k5 k6 k7 k8
      go_wp2
      refine bodyPost_ret (v := .tuple #[.agg #[.int .i64 0, .int .i64 0], .int .i64 30]) (by simp [results, Tryd.results45, go_sem, i1, i2]) rfl ?_
      exact ⟨ret_rat HE.out.symm, below_set1 ((below_alloc3 _ _ _ _).trans ((hb1.trans (hb2.mono hb1.size)).mono (below_alloc3 _ _ _ _).size)) (by omega) _ _ _ _⟩
  · have hr : isR p q = false := by simpa using h
    have HE := Lib.hid (doR_bad (k := k) (p := p) (q := q) (r := r) (s := s) (by rw [hr]; simp))
    clear h
    go_enter Tryd.func45, Tryd.ntmps45
    go_wp2_with fail
    refine (RIs_any p q _ h1).mono ?_
    rintro e w1 ⟨rfl, hb1⟩
    obtain ⟨k1, k2, k3, k4, k5, k6, k7, k8, k9⟩ := keep3 0 hb1
    go_wp2
    refine bodyPost_ret (v := .tuple #[.agg #[.int .i64 0, .int .i64 0], .int .i64 30]) (by simp [results, Tryd.results45, go_sem, k5, k6]) rfl ?_
    exact ⟨ret_rat HE.out.symm, below_set1 ((below_alloc3 _ _ _ _).trans (hb1.mono (below_alloc3 _ _ _ _).size)) (by omega) _ _ _ _⟩

/-- how two parts lie -/
def ordV (p q r s : Int) : Int := if q < 1 ∨ s < 1 then 0 else ord (p * s) (r * q)
def ordE (q s : Int) : Int := if q < 1 ∨ s < 1 then 1 else 0
theorem whole_mem {w : World} {B s : Nat} {v : Value} {Z : Int} (h : Whole w B v Z s) : ∃ neg A n cap N, v = .agg #[.bool neg, .slice A n cap] ∧ (n = 0 → Z = 0) ∧ (n ≠ 0 → neg = true → Z < 0) ∧ (n ≠ 0 → neg = false → 0 < Z) ∧ (N = Z) := by
  obtain ⟨neg, u, N, rfl, ⟨A, n, cap, l, rfl, h⟩, rfl⟩ := h
  have h1 := canon_zero h.canon
  rw [h.val, h.len] at h1
  have h2 := val_nonneg h.canon.1
  rw [h.val] at h2
  refine ⟨neg, A, n, cap, _, rfl, fun h0 => ?_, fun h0 hn => ?_, fun h0 hn => ?_, rfl⟩
  · rw [h1.2 h0]; cases neg <;> rfl
  · subst hn
    have : N ≠ 0 := fun e => h0 (h1.1 e)
    simp [sg]; omega
  · subst hn
    have : N ≠ 0 := fun e => h0 (h1.1 e)
    simp [sg]; omega
set_option maxHeartbeats 4000000 in
theorem ROrder_any (p q r s : Int) (w : World) (h1 : Fit p q) (h2 : Fit r s) :
    Calls Tryd.prog 19 #[.int .i64 p, .int .i64 q, .int .i64 r, .int .i64 s] w fun e w' => e = .returned (.tuple #[.int .i64 (ordV p q r s), .int .i64 (ordE q s)]) ∧ Below w.heap.size w w' := by
  obtain ⟨⟨p0, p1⟩, q0, q1⟩ := h1
  obtain ⟨⟨r0, r1⟩, s0, s1⟩ := h2
  by_cases hq : q < 1
  · have HE := Lib.hid (show ordV p q r s = 0 ∧ ordE q s = 1 by unfold ordV ordE; rw [if_pos (.inl hq), if_pos (.inl hq)]; exact ⟨rfl, rfl⟩)
    go_enter Tryd.func19, Tryd.ntmps19
    go_wp2
    go_ret2
    exact ⟨ret_int2 HE.out.1.symm HE.out.2.symm, Below.refl _ _⟩
  · by_cases hs : s < 1
    · have HE := Lib.hid (show ordV p q r s = 0 ∧ ordE q s = 1 by unfold ordV ordE; rw [if_pos (.inr hs), if_pos (.inr hs)]; exact ⟨rfl, rfl⟩)
      go_enter Tryd.func19, Tryd.ntmps19
      go_wp2
      go_ret2
      exact ⟨ret_int2 HE.out.1.symm HE.out.2.symm, Below.refl _ _⟩
    · have HE := Lib.hid (show ordV p q r s = ord (p * s) (r * q) ∧ ordE q s = 0 by unfold ordV ordE; rw [if_neg (by omega), if_neg (by omega)]; exact ⟨rfl, rfl⟩)
      go_enter Tryd.func19, Tryd.ntmps19
      go_wp2_with fail
      refine (Int_any p _ p0 p1).mono ?_
      rintro e w1 ⟨⟨v1, rfl, hv1⟩, hb1⟩
      have HV1 := Lib.hid hv1
      clear hv1
      go_wp2_with fail
      refine (Int_any s _ s0 s1).mono ?_
      rintro e w2 ⟨⟨v2, rfl, hv2⟩, hb2⟩
      have HV2 := Lib.hid hv2
      clear hv2
      go_wp2_with fail
      refine (Product_any _ _ p s 4 4 _ ((HV1.out.below hb2 (Nat.le_refl _)).more hb2.size (Nat.le_refl _)) HV2.out (by omega) (by omega)).mono ?_
      rintro e w3 ⟨⟨v3, rfl, hv3⟩, hb3⟩
      have HV3 := Lib.hid hv3
      have HB3 := Lib.hid (hb1.trans ((hb2.trans (hb3.mono hb2.size)).mono hb1.size))
      clear hv3 hb1 hb2 hb3 HV1 HV2
      go_wp2_with fail
      refine (Int_any r _ r0 r1).mono ?_
      rintro e w4 ⟨⟨v4, rfl, hv4⟩, hb4⟩
      have HV4 := Lib.hid hv4
      clear hv4
      go_wp2_with fail
      refine (Int_any q _ q0 q1).mono ?_
      rintro e w5 ⟨⟨v5, rfl, hv5⟩, hb5⟩
      have HV5 := Lib.hid hv5
      clear hv5
      go_wp2_with fail
      refine (Product_any _ _ r q 4 4 _ ((HV4.out.below hb5 (Nat.le_refl _)).more hb5.size (Nat.le_refl _)) HV5.out (by omega) (by omega)).mono ?_
      rintro e w6 ⟨⟨v6, rfl, hv6⟩, hb6⟩
      have HV6 := Lib.hid hv6
      have hb46 := hb4.trans ((hb5.trans (hb6.mono hb5.size)).mono hb4.size)
      clear hv6 hb4 hb5 hb6 HV4 HV5
      go_wp2_with fail
      refine (Turn_any _ (r * q) _ _ HV6.out).mono ?_
      rintro e w7 ⟨⟨v7, rfl, hv7⟩, hb7⟩
      have HV7 := Lib.hid hv7
      have hb47 := hb46.trans (hb7.mono hb46.size)
      clear hv7 hb7 hb46 HV6
      go_wp2_with fail
      refine (Both_any _ _ (p * s) (-(r * q)) 8 8 _ ((HV3.out.below hb47 (Nat.le_refl _)).more hb47.size (Nat.le_refl _)) HV7.out (by omega) (by omega)).mono ?_
      rintro e w8 ⟨⟨v8, rfl, hv8⟩, hb8⟩
      have HB8 := Lib.hid (HB3.out.trans ((hb47.trans (hb8.mono hb47.size)).mono HB3.out.size))
      obtain ⟨neg, A, n, cap, N, rfl, z1, z2, z3, _⟩ := whole_mem hv8
      clear hv8 hb47 hb8
      by_cases hn : n = 0
      · subst hn
        have HO := Lib.hid (show ord (p * s) (r * q) = 0 from ord_eq (by have := z1 rfl; omega))
        clear z1 z2 z3
        go_wp2
        go_ret2
        exact ⟨ret_int2 (by rw [HE.out.1, HO.out]) HE.out.2.symm, (HB8.out.trans ((below_alloc1 _ _).mono HB8.out.size))⟩
      · have hn2 : (n == 0) = false := by simpa using hn
        cases neg
        · have HO := Lib.hid (show ord (p * s) (r * q) = 1 from ord_gt (by have := z3 hn rfl; omega))
          clear z1 z2 z3 hn
          go_wp2
          go_ret2
          exact ⟨ret_int2 (by rw [HE.out.1, HO.out]) HE.out.2.symm, (HB8.out.trans ((below_alloc1 _ _).mono HB8.out.size))⟩
        · have HO := Lib.hid (show ord (p * s) (r * q) = -1 from ord_lt (by have := z2 hn rfl; omega))
          clear z1 z2 z3 hn
          go_wp2
          go_ret2
          exact ⟨ret_int2 (by rw [HE.out.1, HO.out]) HE.out.2.symm, (HB8.out.trans ((below_alloc1 _ _).mono HB8.out.size))⟩
end Go.Proofs.YtdpmijmofeechaaDoor.RefRat
