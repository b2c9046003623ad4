/- Scores: which are right (score.Is), that of a sum (Of), how two lie (odder, Cmp), what is whole (Mean); the document's Is, Of, Odder. -/
import Derived.Test.YtdpmijmofeechaaDoorPartW
namespace Go.Proofs.YtdpmijmofeechaaDoor.ScoW
set_option linter.unusedVariables false
open Go.RowKit Base BigM BigZ GcdM RatM RatW RefRat Glob WideM WideW Rat2 TextW PartW

/-- is a score right? -/
def isS (p q : Int) : Bool := decide (1 ≤ q ∧ q ≤ 16 ∧ 0 ≤ p ∧ p ≤ 274877906944 ∧ g p q = 1)
theorem isS_true {p q : Int} (h : isS p q = true) : 1 ≤ q ∧ q ≤ 16 ∧ 0 ≤ p ∧ p ≤ 274877906944 ∧ g p q = 1 := of_decide_eq_true h
theorem isS_no {p q : Int} (h : ¬ (1 ≤ q ∧ q ≤ 16 ∧ 0 ≤ p ∧ p ≤ 274877906944)) : isS p q = false := decide_eq_false (fun k => h ⟨k.1, k.2.1, k.2.2.1, k.2.2.2.1⟩)
theorem isS_g {p q : Int} (h1 : 1 ≤ q) (h2 : q ≤ 16) (h3 : 0 ≤ p) (h4 : p ≤ 274877906944) : (gcdV p q == 1) = isS p q := by
  have hb := g_le_right p q (by omega)
  rw [(gcd_in (a := p) (b := q) (by omega)).1]
  unfold isS
  by_cases hg : g p q = 1
  · rw [decide_eq_true ⟨h1, h2, h3, h4, hg⟩, hg]; rfl
  · rw [decide_eq_false (fun k => hg k.2.2.2.2)]; simpa using hg
set_option maxHeartbeats 1000000 in
theorem SIs_any (p q : Int) (w : World) (hf : Fit p q) :
    Calls Tryd.prog 28 #[.agg #[.int .i64 p, .int .i64 q]] w fun e w' => e = .returned (.bool (isS p q)) ∧ Below w.heap.size w w' := by
  obtain ⟨⟨p0, p1⟩, q0, q1⟩ := hf
  by_cases hok : 1 ≤ q ∧ q ≤ 16 ∧ 0 ≤ p ∧ p ≤ 274877906944
  · obtain ⟨h1, h2, h3, h4⟩ := hok
    have HG := Lib.hid (isS_g h1 h2 h3 h4)
    go_enter Tryd.func28, Tryd.ntmps28
    go_wp2_with fail
    refine (RatW.Gcd_any p q _ p0 p1 q0 q1).mono ?_
    rintro e w1 ⟨rfl, k, rfl⟩
    go_wp2
    go_ret
    exact ⟨ret_bool HG.out, below_drewN (below_alloc1 _ _) _⟩
  · have HN := Lib.hid (isS_no hok)
    by_cases h0 : q < 1
    · go_enter Tryd.func28, Tryd.ntmps28
      go_wp2
      go_ret
      exact ⟨ret_bool HN.out.symm, below_alloc1 _ _⟩
    · skip
      by_cases h1 : 16 < q
      · go_enter Tryd.func28, Tryd.ntmps28
        go_wp2
        go_ret
        exact ⟨ret_bool HN.out.symm, below_alloc1 _ _⟩
      · skip
        by_cases h2 : p < 0
        · go_enter Tryd.func28, Tryd.ntmps28
          go_wp2
          go_ret
          exact ⟨ret_bool HN.out.symm, below_alloc1 _ _⟩
        · skip
          have h3 : 274877906944 < p := by omega
          clear hok
          go_enter Tryd.func28, Tryd.ntmps28
          go_wp2
          go_ret
          exact ⟨ret_bool HN.out.symm, below_alloc1 _ _⟩
set_option maxHeartbeats 1000000 in
theorem RSIs_any (p q : Int) (w : World) (hf : Fit p q) :
    Calls Tryd.prog 29 #[.agg #[.int .i64 p, .int .i64 q]] w fun e w' => e = .returned (.bool (isS p q)) ∧ Below w.heap.size w w' := by
  obtain ⟨⟨p0, p1⟩, q0, q1⟩ := hf
  by_cases hok : 1 ≤ q ∧ q ≤ 16 ∧ 0 ≤ p ∧ p ≤ 274877906944
  · obtain ⟨h1, h2, h3, h4⟩ := hok
    have HG := Lib.hid (isS_g h1 h2 h3 h4)
    go_enter Tryd.func29, Tryd.ntmps29
    go_wp2_with fail
    refine (GcdW.RGcd_any p q _ p0 p1 q0 q1).mono ?_
    rintro e w1 ⟨rfl, hb1⟩
    go_wp2
    go_ret
    exact ⟨ret_bool HG.out, bt hb1 (below_alloc1 _ _)⟩
  · have HN := Lib.hid (isS_no hok)
    by_cases h0 : q < 1
    · go_enter Tryd.func29, Tryd.ntmps29
      go_wp2
      go_ret
      exact ⟨ret_bool HN.out.symm, below_alloc1 _ _⟩
    · skip
      by_cases h1 : 16 < q
      · go_enter Tryd.func29, Tryd.ntmps29
        go_wp2
        go_ret
        exact ⟨ret_bool HN.out.symm, below_alloc1 _ _⟩
      · skip
        by_cases h2 : p < 0
        · go_enter Tryd.func29, Tryd.ntmps29
          go_wp2
          go_ret
          exact ⟨ret_bool HN.out.symm, below_alloc1 _ _⟩
        · skip
          have h3 : 274877906944 < p := by omega
          clear hok
          go_enter Tryd.func29, Tryd.ntmps29
          go_wp2
          go_ret
          exact ⟨ret_bool HN.out.symm, below_alloc1 _ _⟩

theorem i64_tdiv (s gg : Int) (h0 : 0 ≤ s) (h1 : s ≤ 9223372036854775807) (h2 : 1 ≤ gg) : IntKind.i64.wrap (s.tdiv gg) = s / gg := by
  rw [Int.tdiv_eq_ediv_of_nonneg h0]
  have a := Int.ediv_nonneg h0 (show 0 ≤ gg by omega)
  have b := Int.ediv_le_self gg h0
  exact IntWalk.i64_in _ (by omega)
/-- the score of a sum, and its error -/
def ofS (s t : Int) : Int × Int × Int := if 0 ≤ s ∧ s ≤ 274877906944 ∧ 1 ≤ t ∧ t ≤ 16 then (s / g s t, t / g s t, 0) else (0, 0, 1)
theorem ofS_no {s t : Int} (h : ¬ (0 ≤ s ∧ s ≤ 274877906944 ∧ 1 ≤ t ∧ t ≤ 16)) : ofS s t = (0, 0, 1) := by unfold ofS; rw [if_neg h]
theorem ofS_yes {s t : Int} (h : 0 ≤ s ∧ s ≤ 274877906944 ∧ 1 ≤ t ∧ t ≤ 16) : ofS s t = (s / g s t, t / g s t, 0) := by unfold ofS; rw [if_pos h]
set_option maxHeartbeats 1000000 in
theorem SOf_any (s t : Int) (w : World) (s0 : -9223372036854775808 ≤ s ∧ s ≤ 9223372036854775807) (t0 : -9223372036854775808 ≤ t ∧ t ≤ 9223372036854775807) :
    Calls Tryd.prog 25 #[.int .i64 s, .int .i64 t] w fun e w' => e = .returned (.tuple #[.agg #[.int .i64 (ofS s t).1, .int .i64 (ofS s t).2.1], .int .i64 (ofS s t).2.2]) ∧ Below w.heap.size w w' := by
  by_cases hok : 0 ≤ s ∧ s ≤ 274877906944 ∧ 1 ≤ t ∧ t ≤ 16
  · have F := Lib.hid (ofS_yes hok)
    obtain ⟨h1, h2, h3, h4⟩ := hok
    have hgb := g_le_right s t (by omega)
    have hgp := g_pos (p := s) (q := t) (by omega)
    have HV := Lib.hid (gcd_in (a := s) (b := t) (by omega)).1
    obtain ⟨gg, eg⟩ : ∃ gg, g s t = gg := ⟨_, rfl⟩
    rw [eg] at hgb hgp
    have EG := Lib.hid eg
    clear eg
    have hgz : (gg == 0) = false := by simpa using (by omega : gg ≠ 0)
    go_enter Tryd.func25, Tryd.ntmps25
    go_wp2_with fail
    refine (RatW.Gcd_any s t _ s0.1 s0.2 t0.1 t0.2).mono ?_
    rintro e w1 ⟨rfl, k, rfl⟩
    rw [HV.out, EG.out]
    have hdv1 := i64_tdiv s gg (by omega) (by omega) (by omega)
    have hdv2 := i64_tdiv t gg (by omega) (by omega) (by omega)
    go_wp2_with fail
    go_region
    go_wp2
    refine bodyPost_ret (v := .tuple #[.agg #[.int .i64 (s / gg), .int .i64 (t / gg)], .int .i64 0]) (by simp [results, Tryd.results25, go_sem]) rfl ?_
    exact ⟨ret_rat (by rw [F.out, EG.out]), Below.setCell (Below.setCell (below_drewN (below_alloc1 w _) _) (Nat.le_refl _) _) (Nat.le_refl _) _⟩
  · have HN := Lib.hid (ofS_no hok)
    by_cases h0 : s < 0
    · go_enter Tryd.func25, Tryd.ntmps25
      go_wp2
      refine bodyPost_ret (v := .tuple #[.agg #[.int .i64 0, .int .i64 0], .int .i64 1]) (by simp [results, Tryd.results25, go_sem]) rfl ?_
      exact ⟨ret_rat HN.out.symm, below_alloc1 _ _⟩
    · skip
      by_cases h1 : 274877906944 < s
      · go_enter Tryd.func25, Tryd.ntmps25
        go_wp2
        refine bodyPost_ret (v := .tuple #[.agg #[.int .i64 0, .int .i64 0], .int .i64 1]) (by simp [results, Tryd.results25, go_sem]) rfl ?_
        exact ⟨ret_rat HN.out.symm, below_alloc1 _ _⟩
      · skip
        by_cases h2 : t < 1
        · go_enter Tryd.func25, Tryd.ntmps25
          go_wp2
          refine bodyPost_ret (v := .tuple #[.agg #[.int .i64 0, .int .i64 0], .int .i64 1]) (by simp [results, Tryd.results25, go_sem]) rfl ?_
          exact ⟨ret_rat HN.out.symm, below_alloc1 _ _⟩
        · skip
          have h3 : 16 < t := by omega
          clear hok
          go_enter Tryd.func25, Tryd.ntmps25
          go_wp2
          refine bodyPost_ret (v := .tuple #[.agg #[.int .i64 0, .int .i64 0], .int .i64 1]) (by simp [results, Tryd.results25, go_sem]) rfl ?_
          exact ⟨ret_rat HN.out.symm, below_alloc1 _ _⟩
set_option maxHeartbeats 1000000 in
theorem RSOf_any (s t : Int) (w : World) (s0 : -9223372036854775808 ≤ s ∧ s ≤ 9223372036854775807) (t0 : -9223372036854775808 ≤ t ∧ t ≤ 9223372036854775807) :
    Calls Tryd.prog 26 #[.int .i64 s, .int .i64 t] w fun e w' => e = .returned (.tuple #[.agg #[.int .i64 (ofS s t).1, .int .i64 (ofS s t).2.1], .int .i64 (ofS s t).2.2]) ∧ Below w.heap.size w w' := by
  by_cases hok : 0 ≤ s ∧ s ≤ 274877906944 ∧ 1 ≤ t ∧ t ≤ 16
  · have F := Lib.hid (ofS_yes hok)
    obtain ⟨h1, h2, h3, h4⟩ := hok
    have hgb := g_le_right s t (by omega)
    have hgp := g_pos (p := s) (q := t) (by omega)
    have HV := Lib.hid (gcd_in (a := s) (b := t) (by omega)).1
    obtain ⟨gg, eg⟩ : ∃ gg, g s t = gg := ⟨_, rfl⟩
    rw [eg] at hgb hgp
    have EG := Lib.hid eg
    clear eg
    have hgz : (gg == 0) = false := by simpa using (by omega : gg ≠ 0)
    go_enter Tryd.func26, Tryd.ntmps26
    go_wp2_with fail
    refine (GcdW.RGcd_any s t _ s0.1 s0.2 t0.1 t0.2).mono ?_
    rintro e w1 ⟨rfl, hb1⟩
    rw [HV.out, EG.out]
    obtain ⟨c0, c1, f0, f1, hz⟩ := keepR hb1 (r := w.heap.size) (c0 := .int .i64 0) (c1 := .int .i64 0) (by go_simp) (by go_simp) (by go_simp) (by go_simp)
    have hb := bt hb1 (below_alloc1 w _)
    clear hb1
    have hdv1 := i64_tdiv s gg (by omega) (by omega) (by omega)
    have hdv2 := i64_tdiv t gg (by omega) (by omega) (by omega)
    go_wp2_with fail
    go_region
    go_wp2
    refine bodyPost_ret (v := .tuple #[.agg #[.int .i64 (s / gg), .int .i64 (t / gg)], .int .i64 0]) (by simp [results, Tryd.results26, go_sem, c0, c1]) rfl ?_
    exact ⟨ret_rat (by rw [F.out, EG.out]), below_drewN (Below.setCell (Below.setCell hb (Nat.le_refl _) _) (Nat.le_refl _) _) _⟩
  · have HN := Lib.hid (ofS_no hok)
    by_cases h0 : s < 0
    · go_enter Tryd.func26, Tryd.ntmps26
      go_wp2
      refine bodyPost_ret (v := .tuple #[.agg #[.int .i64 0, .int .i64 0], .int .i64 1]) (by simp [results, Tryd.results26, go_sem]) rfl ?_
      exact ⟨ret_rat HN.out.symm, below_alloc1 _ _⟩
    · skip
      by_cases h1 : 274877906944 < s
      · go_enter Tryd.func26, Tryd.ntmps26
        go_wp2
        refine bodyPost_ret (v := .tuple #[.agg #[.int .i64 0, .int .i64 0], .int .i64 1]) (by simp [results, Tryd.results26, go_sem]) rfl ?_
        exact ⟨ret_rat HN.out.symm, below_alloc1 _ _⟩
      · skip
        by_cases h2 : t < 1
        · go_enter Tryd.func26, Tryd.ntmps26
          go_wp2
          refine bodyPost_ret (v := .tuple #[.agg #[.int .i64 0, .int .i64 0], .int .i64 1]) (by simp [results, Tryd.results26, go_sem]) rfl ?_
          exact ⟨ret_rat HN.out.symm, below_alloc1 _ _⟩
        · skip
          have h3 : 16 < t := by omega
          clear hok
          go_enter Tryd.func26, Tryd.ntmps26
          go_wp2
          refine bodyPost_ret (v := .tuple #[.agg #[.int .i64 0, .int .i64 0], .int .i64 1]) (by simp [results, Tryd.results26, go_sem]) rfl ?_
          exact ⟨ret_rat HN.out.symm, below_alloc1 _ _⟩

/-- which one of two is odder: 1: the first one -/
def oddV (p q r s : Int) : Int := ord (r * q) (p * s)
theorem prod60 {p s : Int} (h1 : 0 ≤ p) (h2 : p ≤ 274877906944) (h3 : 1 ≤ s) (h4 : s ≤ 16) : 0 ≤ p * s ∧ p * s ≤ 4398046511104 := by
  refine ⟨Int.mul_nonneg h1 (by omega), ?_⟩
  have := Int.mul_le_mul h2 h4 (by omega) (by omega)
  omega
theorem odder_any (p q r s : Int) (w : World) (h1 : Fit p q) (h2 : Fit r s) :
    Calls Tryd.prog 71 #[.agg #[.int .i64 p, .int .i64 q], .agg #[.int .i64 r, .int .i64 s]] w fun e w' => e = .returned (.int .i64 (oddV p q r s)) ∧ Below w.heap.size w w' := by
  go_enter Tryd.func71, Tryd.ntmps71
  go_wp2_with fail
  refine (Prods_any r q p s _ ⟨h2.1.1, h2.1.2⟩ ⟨h1.2.1, h1.2.2⟩ ⟨h1.1.1, h1.1.2⟩ ⟨h2.2.1, h2.2.2⟩).mono ?_
  rintro e w1 ⟨rfl, hb1⟩
  go_wp2
  go_ret
  exact ⟨rfl, bt hb1 (below_alloc2 _ _ _)⟩
set_option maxHeartbeats 1000000 in
theorem Odder_any (p q r s : Int) (w : World) (h1 : isS p q = true) (h2 : isS r s = true) :
    Calls Tryd.prog 32 #[.agg #[.int .i64 p, .int .i64 q], .agg #[.int .i64 r, .int .i64 s]] w fun e w' => e = .returned (.int .i64 (oddV p q r s)) ∧ Below w.heap.size w w' := by
  obtain ⟨a1, a2, a3, a4, _⟩ := isS_true h1
  obtain ⟨b1, b2, b3, b4, _⟩ := isS_true h2
  have m1 := prod60 a3 a4 b1 b2
  have m2 := prod60 b3 b4 a1 a2
  have HO := Lib.hid (show oddV p q r s = ord (r * q) (p * s) from rfl)
  obtain ⟨X, ex⟩ : ∃ X, p * s = X := ⟨_, rfl⟩
  obtain ⟨Y, ey⟩ : ∃ Y, r * q = Y := ⟨_, rfl⟩
  rw [ex] at m1
  rw [ey] at m2
  rcases Int.lt_trichotomy X Y with h | h | h
  · have F := Lib.hid (show oddV p q r s = 1 by rw [HO.out, ex, ey]; exact ord_gt h)
    go_enter Tryd.func32, Tryd.ntmps32
    go_wp2
    go_ret
    exact ⟨ret_int F.out.symm, below_alloc2 _ _ _⟩
  · have F := Lib.hid (show oddV p q r s = 0 by rw [HO.out, ex, ey]; exact ord_eq h.symm)
    have hh1 : ¬ X < Y := by omega
    have hh2 : ¬ Y < X := by omega
    clear h
    go_enter Tryd.func32, Tryd.ntmps32
    go_wp2
    go_ret
    exact ⟨ret_int F.out.symm, below_alloc2 _ _ _⟩
  · have F := Lib.hid (show oddV p q r s = -1 by rw [HO.out, ex, ey]; exact ord_lt h)
    have hh1 : ¬ X < Y := by omega
    go_enter Tryd.func32, Tryd.ntmps32
    go_wp2
    go_ret
    exact ⟨ret_int F.out.symm, below_alloc2 _ _ _⟩
/-- both are right? -/
def bothS (p q r s : Int) : Bool := isS p q && isS r s
def cmpS (p q r s : Int) : Int := if bothS p q r s = true then oddV p q r s else 0
def cmpSE (p q r s : Int) : Int := if bothS p q r s = true then 0 else 130
set_option maxHeartbeats 1000000 in
theorem SCmp_any (p q r s : Int) (w : World) (h1 : Fit p q) (h2 : Fit r s) :
    Calls Tryd.prog 31 #[.agg #[.int .i64 p, .int .i64 q], .agg #[.int .i64 r, .int .i64 s]] w fun e w' => e = .returned (.tuple #[.int .i64 (cmpS p q r s), .int .i64 (cmpSE p q r s)]) ∧ Below w.heap.size w w' := by
  cases ha : isS p q
  · have F := Lib.hid (show cmpS p q r s = 0 ∧ cmpSE p q r s = 130 by unfold cmpS cmpSE bothS; rw [ha]; exact ⟨rfl, rfl⟩)
    go_enter Tryd.func31, Tryd.ntmps31
    go_wp2_with fail
    refine (SIs_any p q _ h1).mono ?_
    rintro e w1 ⟨rfl, hb1⟩
    go_wp2
    go_ret2
    exact ⟨ret_int2 F.out.1.symm F.out.2.symm, bt hb1 (below_alloc2 _ _ _)⟩
  · cases hb : isS r s
    · have F := Lib.hid (show cmpS p q r s = 0 ∧ cmpSE p q r s = 130 by unfold cmpS cmpSE bothS; rw [ha, hb]; exact ⟨rfl, rfl⟩)
      go_enter Tryd.func31, Tryd.ntmps31
      go_wp2_with fail
      refine (SIs_any p q _ h1).mono ?_
      rintro e w1 ⟨rfl, hb1⟩
      have d0 := cell_at_below hb1 (w.heap.size + 1) 0 (.int .i64 r) (by go_simp)
      have d1 := cell_at_below hb1 (w.heap.size + 1) 1 (.int .i64 s) (by go_simp)
      go_wp2_with fail
      refine (SIs_any r s _ h2).mono ?_
      rintro e w2 ⟨rfl, hb2⟩
      go_wp2
      go_ret2
      exact ⟨ret_int2 F.out.1.symm F.out.2.symm, bt hb2 (bt hb1 (below_alloc2 _ _ _))⟩
    · have F := Lib.hid (show cmpS p q r s = oddV p q r s ∧ cmpSE p q r s = 0 by unfold cmpS cmpSE bothS; rw [ha, hb]; exact ⟨rfl, rfl⟩)
      go_enter Tryd.func31, Tryd.ntmps31
      go_wp2_with fail
      refine (SIs_any p q _ h1).mono ?_
      rintro e w1 ⟨rfl, hb1⟩
      have c0 := cell_at_below hb1 w.heap.size 0 (.int .i64 p) (by go_simp)
      have c1 := cell_at_below hb1 w.heap.size 1 (.int .i64 q) (by go_simp)
      have d0 := cell_at_below hb1 (w.heap.size + 1) 0 (.int .i64 r) (by go_simp)
      have d1 := cell_at_below hb1 (w.heap.size + 1) 1 (.int .i64 s) (by go_simp)
      go_wp2_with fail
      refine (SIs_any r s _ h2).mono ?_
      rintro e w2 ⟨rfl, hb2⟩
      have c0 := cell_at_below hb2 _ _ _ c0
      have c1 := cell_at_below hb2 _ _ _ c1
      have d0 := cell_at_below hb2 _ _ _ d0
      have d1 := cell_at_below hb2 _ _ _ d1
      go_wp2_with fail
      refine (odder_any p q r s _ h1 h2).mono ?_
      rintro e w3 ⟨rfl, hb3⟩
      go_wp2
      go_ret2
      exact ⟨ret_int2 F.out.1.symm F.out.2.symm, bt hb3 (bt hb2 (bt hb1 (below_alloc2 _ _ _)))⟩
/-- what is whole of a score -/
def meanV (p q : Int) : Int := if isS p q = true then p / q else 0
def meanE (p q : Int) : Int := if isS p q = true then 0 else 130
set_option maxHeartbeats 1000000 in
theorem Mean_any (p q : Int) (w : World) (h1 : Fit p q) :
    Calls Tryd.prog 30 #[.agg #[.int .i64 p, .int .i64 q]] w fun e w' => e = .returned (.tuple #[.int .i64 (meanV p q), .int .i64 (meanE p q)]) ∧ Below w.heap.size w w' := by
  cases ha : isS p q
  · have F := Lib.hid (show meanV p q = 0 ∧ meanE p q = 130 by unfold meanV meanE; rw [ha]; exact ⟨rfl, rfl⟩)
    go_enter Tryd.func30, Tryd.ntmps30
    go_wp2_with fail
    refine (SIs_any p q _ h1).mono ?_
    rintro e w1 ⟨rfl, hb1⟩
    go_wp2
    go_ret2
    exact ⟨ret_int2 F.out.1.symm F.out.2.symm, bt hb1 (below_alloc1 _ _)⟩
  · have F := Lib.hid (show meanV p q = p / q ∧ meanE p q = 0 by unfold meanV meanE; rw [ha]; exact ⟨rfl, rfl⟩)
    obtain ⟨a1, a2, a3, a4, _⟩ := isS_true ha
    have hq0 : (q == 0) = false := by simpa using (by omega : q ≠ 0)
    go_enter Tryd.func30, Tryd.ntmps30
    go_wp2_with fail
    refine (SIs_any p q _ h1).mono ?_
    rintro e w1 ⟨rfl, hb1⟩
    have c0 := cell_at_below hb1 w.heap.size 0 (.int .i64 p) (by go_simp)
    have c1 := cell_at_below hb1 w.heap.size 1 (.int .i64 q) (by go_simp)
    go_wp2
    go_ret2
    exact ⟨ret_int2 F.out.1.symm F.out.2.symm, bt hb1 (below_alloc1 _ _)⟩
end Go.Proofs.YtdpmijmofeechaaDoor.ScoW
