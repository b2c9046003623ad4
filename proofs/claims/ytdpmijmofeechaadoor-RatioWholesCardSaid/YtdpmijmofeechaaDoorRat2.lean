/- The walks of package ratio: Sub, Mul, Div, Cmp, Order; of num.Div and num.Ceil; of ratio.Floor and Ceil. -/
import Derived.Test.YtdpmijmofeechaaDoorWideW
import Derived.Test.YtdpmijmofeechaaDoorRefDo
namespace Go.Proofs.YtdpmijmofeechaaDoor.Rat2
set_option linter.unusedVariables false
open Go.RowKit Base BigM BigZ GcdM RatM RatW RefRat Glob WideM WideW

theorem g_neg (a b : Int) : g (-a) b = g a b := by rw [g_def, g_def, Int.natAbs_neg]
theorem isR_neg (p q : Int) : isR (-p) q = isR p q := by
  unfold isR; rw [g_neg]
  exact decide_eq_decide.2 ⟨fun h => ⟨h.1, h.2.1, by omega, by omega, h.2.2.2.2⟩, fun h => ⟨h.1, h.2.1, by omega, by omega, h.2.2.2.2⟩⟩
theorem sub_do (p q r s : Int) : addR p q (-r) s = doR 1 p q r s := by
  unfold addR doR
  rw [isR_neg]
  split
  · congr 1
    simp only [numP]
    rw [Int.neg_mul]; simp; omega
  · rfl

set_option maxHeartbeats 2000000 in
theorem Sub_any (p q r s : Int) (w : World) (h1 : Fit p q) (h2 : Fit r s) :
    Calls Tryd.prog 46 #[.agg #[.int .i64 p, .int .i64 q], .agg #[.int .i64 r, .int .i64 s]] w fun e w' => e = .returned (.tuple #[.agg #[.int .i64 (doR 1 p q r s).1, .int .i64 (doR 1 p q r s).2.1], .int .i64 (doR 1 p q r s).2.2]) ∧ Below w.heap.size w w' := by
  by_cases h : (isR p q && isR r s) = true
  · have HB := Lib.hid (show bothE p q r s = 0 by unfold bothE; rw [if_pos h])
    have HE := Lib.hid (doR_ok (k := 1) h)
    have h' := h
    rw [Bool.and_eq_true] at h'
    obtain ⟨x1, x2, x3, x4, _⟩ := isR_true h'.1
    obtain ⟨y1, y2, y3, y4, _⟩ := isR_true h'.2
    clear h h'
    have m1 := mul60 (a := p) (b := s) ⟨x3, x4⟩ ⟨by omega, y2⟩
    have m3 := mul60 (a := q) (b := s) ⟨by omega, x2⟩ ⟨by omega, y2⟩
    have m4 := mul60 (a := p) (b := r) ⟨x3, x4⟩ ⟨y3, y4⟩
    have m5 := mul60 (a := q) (b := r) ⟨by omega, x2⟩ ⟨y3, y4⟩
    go_enter Tryd.func46, Tryd.ntmps46
    go_wp2_with fail
    refine (both_any p q r s _ h1 h2).mono ?_
    rintro e w1 ⟨rfl, hb1⟩
    rw [HB.out]
    obtain ⟨k1, k2, k3, k4, k5, k6, k7, k8, k9⟩ := keep3 0 hb1
    go_wp2_with fail
    refine (Add_any p q (-r) s _ h1 ⟨⟨by omega, by omega⟩, h2.2⟩).mono ?_
    rintro e w2 ⟨rfl, hb2⟩
    obtain ⟨j1, j2, j3, j4, j5⟩ := keepR hb2 k5 k6 k7 k8
    go_wp2
    refine bodyPost_ret (v := .tuple #[.agg #[.int .i64 (addR p q (-r) s).1, .int .i64 (addR p q (-r) s).2.1], .int .i64 (addR p q (-r) s).2.2]) (by simp [results, Tryd.results46, go_sem, j1, j2]) rfl ?_
    exact ⟨by rw [sub_do], below_set1 ((below_alloc3 _ _ _ _).trans ((hb1.trans (hb2.mono hb1.size)).mono (below_alloc3 _ _ _ _).size)) (by omega) _ _ _ _⟩
  · have HB := Lib.hid (show bothE p q r s = 30 by unfold bothE; rw [if_neg h])
    have HE := Lib.hid (doR_bad (k := 1) h)
    clear h
    go_enter Tryd.func46, Tryd.ntmps46
    go_wp2_with fail
    refine (both_any p q r s _ h1 h2).mono ?_
    rintro e w1 ⟨rfl, hb1⟩
    rw [HB.out]
    obtain ⟨k1, k2, k3, k4, k5, k6, k7, k8, k9⟩ := keep3 0 hb1
    go_wp2
    refine bodyPost_ret (v := .tuple #[.agg #[.int .i64 0, .int .i64 0], .int .i64 30]) (by simp [results, Tryd.results46, go_sem, k5, k6]) rfl ?_
    exact ⟨ret_rat HE.out.symm, below_set1 ((below_alloc3 _ _ _ _).trans (hb1.mono (below_alloc3 _ _ _ _).size)) (by omega) _ _ _ _⟩

set_option maxHeartbeats 2000000 in
theorem Mul_any (p q r s : Int) (w : World) (h1 : Fit p q) (h2 : Fit r s) :
    Calls Tryd.prog 47 #[.agg #[.int .i64 p, .int .i64 q], .agg #[.int .i64 r, .int .i64 s]] w fun e w' => e = .returned (.tuple #[.agg #[.int .i64 (doR 2 p q r s).1, .int .i64 (doR 2 p q r s).2.1], .int .i64 (doR 2 p q r s).2.2]) ∧ Below w.heap.size w w' := by
  by_cases h : (isR p q && isR r s) = true
  · have HB := Lib.hid (show bothE p q r s = 0 by unfold bothE; rw [if_pos h])
    have HE := Lib.hid (doR_ok (k := 2) h)
    have h' := h
    rw [Bool.and_eq_true] at h'
    obtain ⟨x1, x2, x3, x4, _⟩ := isR_true h'.1
    obtain ⟨y1, y2, y3, y4, _⟩ := isR_true h'.2
    clear h h'
    have m1 := mul60 (a := p) (b := s) ⟨x3, x4⟩ ⟨by omega, y2⟩
    have m3 := mul60 (a := q) (b := s) ⟨by omega, x2⟩ ⟨by omega, y2⟩
    have m4 := mul60 (a := p) (b := r) ⟨x3, x4⟩ ⟨y3, y4⟩
    have m5 := mul60 (a := q) (b := r) ⟨by omega, x2⟩ ⟨y3, y4⟩
    go_enter Tryd.func47, Tryd.ntmps47
    go_wp2_with fail
    refine (both_any p q r s _ h1 h2).mono ?_
    rintro e w1 ⟨rfl, hb1⟩
    rw [HB.out]
    obtain ⟨k1, k2, k3, k4, k5, k6, k7, k8, k9⟩ := keep3 0 hb1
    go_wp2_with fail
    refine (Of_any _ _ _ ⟨⟨by omega, by omega⟩, by omega, by omega⟩).mono ?_
    rintro e w2 ⟨rfl, hb2⟩
    obtain ⟨j1, j2, j3, j4, j5⟩ := keepR hb2 k5 k6 k7 k8
    go_wp2
    refine bodyPost_ret (v := .tuple #[.agg #[.int .i64 (ofR (p * r) (q * s)).1, .int .i64 (ofR (p * r) (q * s)).2.1], .int .i64 (ofR (p * r) (q * s)).2.2]) (by simp [results, Tryd.results47, go_sem, j1, j2]) rfl ?_
    exact ⟨by rw [HE.out]; rfl, below_set1 ((below_alloc3 _ _ _ _).trans ((hb1.trans (hb2.mono hb1.size)).mono (below_alloc3 _ _ _ _).size)) (by omega) _ _ _ _⟩
  · have HB := Lib.hid (show bothE p q r s = 30 by unfold bothE; rw [if_neg h])
    have HE := Lib.hid (doR_bad (k := 2) h)
    clear h
    go_enter Tryd.func47, Tryd.ntmps47
    go_wp2_with fail
    refine (both_any p q r s _ h1 h2).mono ?_
    rintro e w1 ⟨rfl, hb1⟩
    rw [HB.out]
    obtain ⟨k1, k2, k3, k4, k5, k6, k7, k8, k9⟩ := keep3 0 hb1
    go_wp2
    refine bodyPost_ret (v := .tuple #[.agg #[.int .i64 0, .int .i64 0], .int .i64 30]) (by simp [results, Tryd.results47, go_sem, k5, k6]) rfl ?_
    exact ⟨ret_rat HE.out.symm, below_set1 ((below_alloc3 _ _ _ _).trans (hb1.mono (below_alloc3 _ _ _ _).size)) (by omega) _ _ _ _⟩

set_option maxHeartbeats 2000000 in
theorem Div_any (p q r s : Int) (w : World) (h1 : Fit p q) (h2 : Fit r s) :
    Calls Tryd.prog 48 #[.agg #[.int .i64 p, .int .i64 q], .agg #[.int .i64 r, .int .i64 s]] w fun e w' => e = .returned (.tuple #[.agg #[.int .i64 (doR 3 p q r s).1, .int .i64 (doR 3 p q r s).2.1], .int .i64 (doR 3 p q r s).2.2]) ∧ Below w.heap.size w w' := by
  by_cases h : (isR p q && isR r s) = true
  · have HB := Lib.hid (show bothE p q r s = 0 by unfold bothE; rw [if_pos h])
    have HE := Lib.hid (doR_ok (k := 3) h)
    have h' := h
    rw [Bool.and_eq_true] at h'
    obtain ⟨x1, x2, x3, x4, _⟩ := isR_true h'.1
    obtain ⟨y1, y2, y3, y4, _⟩ := isR_true h'.2
    clear h h'
    have m1 := mul60 (a := p) (b := s) ⟨x3, x4⟩ ⟨by omega, y2⟩
    have m3 := mul60 (a := q) (b := s) ⟨by omega, x2⟩ ⟨by omega, y2⟩
    have m4 := mul60 (a := p) (b := r) ⟨x3, x4⟩ ⟨y3, y4⟩
    have m5 := mul60 (a := q) (b := r) ⟨by omega, x2⟩ ⟨y3, y4⟩
    go_enter Tryd.func48, Tryd.ntmps48
    go_wp2_with fail
    refine (both_any p q r s _ h1 h2).mono ?_
    rintro e w1 ⟨rfl, hb1⟩
    rw [HB.out]
    obtain ⟨k1, k2, k3, k4, k5, k6, k7, k8, k9⟩ := keep3 0 hb1
    go_wp2_with fail
    refine (Of_any _ _ _ ⟨⟨by omega, by omega⟩, by omega, by omega⟩).mono ?_
    rintro e w2 ⟨rfl, hb2⟩
    obtain ⟨j1, j2, j3, j4, j5⟩ := keepR hb2 k5 k6 k7 k8
    go_wp2
    refine bodyPost_ret (v := .tuple #[.agg #[.int .i64 (ofR (p * s) (q * r)).1, .int .i64 (ofR (p * s) (q * r)).2.1], .int .i64 (ofR (p * s) (q * r)).2.2]) (by simp [results, Tryd.results48, go_sem, j1, j2]) rfl ?_
    exact ⟨by rw [HE.out]; rfl, below_set1 ((below_alloc3 _ _ _ _).trans ((hb1.trans (hb2.mono hb1.size)).mono (below_alloc3 _ _ _ _).size)) (by omega) _ _ _ _⟩
  · have HB := Lib.hid (show bothE p q r s = 30 by unfold bothE; rw [if_neg h])
    have HE := Lib.hid (doR_bad (k := 3) h)
    clear h
    go_enter Tryd.func48, Tryd.ntmps48
    go_wp2_with fail
    refine (both_any p q r s _ h1 h2).mono ?_
    rintro e w1 ⟨rfl, hb1⟩
    rw [HB.out]
    obtain ⟨k1, k2, k3, k4, k5, k6, k7, k8, k9⟩ := keep3 0 hb1
    go_wp2
    refine bodyPost_ret (v := .tuple #[.agg #[.int .i64 0, .int .i64 0], .int .i64 30]) (by simp [results, Tryd.results48, go_sem, k5, k6]) rfl ?_
    exact ⟨ret_rat HE.out.symm, below_set1 ((below_alloc3 _ _ _ _).trans (hb1.mono (below_alloc3 _ _ _ _).size)) (by omega) _ _ _ _⟩

set_option maxHeartbeats 2000000 in
theorem Order_any (p q r s : Int) (w : World) (h1 : Fit p q) (h2 : Fit r s) :
    Calls Tryd.prog 20 #[.int .i64 p, .int .i64 q, .int .i64 r, .int .i64 s] w fun e w' => e = .returned (.tuple #[.int .i64 (ordV p q r s), .int .i64 (ordE q s)]) ∧ Below w.heap.size w w' := by
  by_cases hq : q < 1
  · have HE := Lib.hid (show ordV p q r s = 0 ∧ ordE q s = 1 by unfold ordV ordE; rw [if_pos (.inl hq), if_pos (.inl hq)]; exact ⟨rfl, rfl⟩)
    go_enter Tryd.func20, Tryd.ntmps20
    go_wp2
    go_ret2
    exact ⟨ret_int2 HE.out.1.symm HE.out.2.symm, Below.refl _ _⟩
  · by_cases hs : s < 1
    · have HE := Lib.hid (show ordV p q r s = 0 ∧ ordE q s = 1 by unfold ordV ordE; rw [if_pos (.inr hs), if_pos (.inr hs)]; exact ⟨rfl, rfl⟩)
      go_enter Tryd.func20, Tryd.ntmps20
      go_wp2
      go_ret2
      exact ⟨ret_int2 HE.out.1.symm HE.out.2.symm, Below.refl _ _⟩
    · have HE := Lib.hid (show ordV p q r s = ord (p * s) (r * q) ∧ ordE q s = 0 by unfold ordV ordE; rw [if_neg (by omega), if_neg (by omega)]; exact ⟨rfl, rfl⟩)
      go_enter Tryd.func20, Tryd.ntmps20
      go_wp2_with fail
      refine (Prods_any p s r q _ h1.1 h2.2 h2.1 h1.2).mono ?_
      rintro e w1 ⟨rfl, hb1⟩
      go_wp2
      go_ret2
      exact ⟨ret_int2 HE.out.1.symm HE.out.2.symm, hb1⟩
def cmpV (p q r s : Int) : Int := if (isR p q && isR r s) = true then ord (p * s) (r * q) else 0
set_option maxHeartbeats 2000000 in
theorem Cmp_any (p q r s : Int) (w : World) (h1 : Fit p q) (h2 : Fit r s) :
    Calls Tryd.prog 49 #[.agg #[.int .i64 p, .int .i64 q], .agg #[.int .i64 r, .int .i64 s]] w fun e w' => e = .returned (.tuple #[.int .i64 (cmpV p q r s), .int .i64 (bothE p q r s)]) ∧ Below w.heap.size w w' := by
  by_cases h : (isR p q && isR r s) = true
  · have HB := Lib.hid (show bothE p q r s = 0 by unfold bothE; rw [if_pos h])
    have HC := Lib.hid (show cmpV p q r s = ordV p q r s ∧ ordE q s = 0 by
      rw [Bool.and_eq_true] at h
      obtain ⟨x1, _⟩ := isR_true h.1
      obtain ⟨y1, _⟩ := isR_true h.2
      unfold cmpV ordV ordE
      rw [if_pos (by rw [h.1, h.2]; rfl), if_neg (by omega), if_neg (by omega)]; exact ⟨rfl, rfl⟩)
    clear h
    go_enter Tryd.func49, Tryd.ntmps49
    go_wp2_with fail
    refine (both_any p q r s _ h1 h2).mono ?_
    rintro e w1 ⟨rfl, hb1⟩
    rw [HB.out]
    obtain ⟨hc, hf⟩ := bcell hb1
    go_wp2_with fail
    refine (Order_any p q r s _ h1 h2).mono ?_
    rintro e w2 ⟨rfl, hb2⟩
    go_wp2
    go_ret2
    exact ⟨ret_int2 HC.out.1.symm (by rw [HC.out.2, HB.out]), (below_alloc2 _ _ _).trans ((hb1.trans (hb2.mono hb1.size)).mono (below_alloc2 _ _ _).size)⟩
  · have HB := Lib.hid (show bothE p q r s = 30 by unfold bothE; rw [if_neg h])
    have HC := Lib.hid (show cmpV p q r s = 0 by unfold cmpV; rw [if_neg h])
    clear h
    go_enter Tryd.func49, Tryd.ntmps49
    go_wp2_with fail
    refine (both_any p q r s _ h1 h2).mono ?_
    rintro e w1 ⟨rfl, hb1⟩
    rw [HB.out]
    go_wp2
    go_ret2
    exact ⟨ret_int2 HC.out.symm HB.out.symm, (below_alloc2 _ _ _).trans (hb1.mono (below_alloc2 _ _ _).size)⟩
end Go.Proofs.YtdpmijmofeechaaDoor.Rat2
