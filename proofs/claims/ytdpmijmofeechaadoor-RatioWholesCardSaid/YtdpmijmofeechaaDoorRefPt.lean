/- The walks of copseref01.Div and Ceil at a divisor from 1 on; of copseref03.Ceil, Part, Floor. -/
import Derived.Test.YtdpmijmofeechaaDoorPartV
import Derived.Test.YtdpmijmofeechaaDoorRefDo
import Derived.Test.YtdpmijmofeechaaDoorRat3
namespace Go.Proofs.YtdpmijmofeechaaDoor.RefPt
set_option linter.unusedVariables false
open Go.RowKit Base BigM BigW BigZ GcdW GcdM RatM RatW RefRat Rat2 PartW PartM

set_option maxHeartbeats 1000000 in
theorem RDiv_any (a b : Int) (w : World) (a0 : -9223372036854775808 ≤ a) (a1 : a ≤ 9223372036854775807) (b0 : 1 ≤ b) (b1 : b ≤ 9223372036854775807) :
    Calls Tryd.prog 90 #[.int .i64 a, .int .i64 b] w fun e w' => e = .returned (.tuple #[.int .i64 (a / b), .int .i64 (a % b), .int .i64 0]) ∧ ∃ q, w' = w.drewN q := by
  obtain ⟨f1, f2, f3, f4⟩ := div_floor a b b0
  have ht := tdiv_bd a b b0 ⟨by omega, a1⟩
  have hd := Int.mul_tdiv_add_tmod a b
  have hz : (b == 0) = false := by simp; omega
  have hm1 : (b == -1) = false := by simp; omega
  by_cases h : 0 ≤ a.tmod b
  · have F := Lib.hid (f1 h)
    clear f1 f2 hd
    go_enter Tryd.func90, Tryd.ntmps90
    go_wp2
    go_quiet (fail)
    go_wp2
    go_ret3
    exact ⟨ret_int3' F.out.1 F.out.2 rfl, _, rfl⟩
  · have F := Lib.hid (f2 (by omega))
    have ht2 : -9223372036854775808 ≤ a.tdiv b - 1 := by
      have h1 := F.out.1
      rw [h1]
      have : -9223372036854775808 / b ≤ a / b := Int.ediv_le_ediv (by omega) (by omega)
      have h2 : -9223372036854775808 ≤ (-9223372036854775808 : Int) / b := by
        apply Int.le_ediv_of_mul_le (by omega)
        omega
      omega
    clear f1 f2 hd
    go_enter Tryd.func90, Tryd.ntmps90
    go_wp2
    go_quiet (fail)
    go_wp2
    go_ret3
    exact ⟨ret_int3' F.out.1 F.out.2 rfl, _, rfl⟩

theorem ceil_floor (a b : Int) (hb : 1 ≤ b) : ceilV a b = a / b + (if 0 < a % b then 1 else 0) := by
  obtain ⟨f1, f2, f3, f4⟩ := div_floor a b hb
  unfold ceilV
  by_cases h : 0 ≤ a.tmod b
  · obtain ⟨e1, e2⟩ := f1 h
    rw [e1, e2]
  · obtain ⟨e1, e2⟩ := f2 (by omega)
    rw [← e1, ← e2, if_neg (by omega), if_pos (by omega)]; omega
set_option maxHeartbeats 1000000 in
theorem RNCeil_any (a b : Int) (w : World) (a0 : -1073741824 ≤ a) (a1 : a ≤ 1073741824) (b0 : 1 ≤ b) (b1 : b ≤ 1073741824) :
    Calls Tryd.prog 86 #[.int .i64 a, .int .i64 b] w fun e w' => e = .returned (.tuple #[.int .i64 (ceilV a b), .int .i64 0]) ∧ ∃ q, w' = w.drewN q := by
  have h0 := Int.mul_ediv_add_emod a b
  have hlo : -1073741824 ≤ a / b := by
    apply Int.le_ediv_of_mul_le (by omega)
    omega
  have hhi : a / b ≤ 1073741824 := by
    have : a / b ≤ 1073741824 / b := Int.ediv_le_ediv (by omega) a1
    have h2 := Int.ediv_le_self b (show (0 : Int) ≤ 1073741824 by omega)
    omega
  have CF := Lib.hid (ceil_floor a b b0)
  have DV := Lib.hid (fun W => RDiv_any a b W (by omega) (by omega) b0 (by omega))
  obtain ⟨d, ed⟩ : ∃ d, a / b = d := ⟨_, rfl⟩
  obtain ⟨m, em⟩ : ∃ m, a % b = m := ⟨_, rfl⟩
  rw [ed, em] at DV CF
  rw [ed] at hlo hhi
  clear h0 ed em
  by_cases h : 0 < m
  · have F := Lib.hid (show ceilV a b = d + 1 by rw [CF.out, if_pos h])
    go_enter Tryd.func86, Tryd.ntmps86
    go_wp2_with fail
    refine (DV.out _).mono ?_
    rintro e w1 ⟨rfl, k, rfl⟩
    go_wp2
    go_ret2
    exact ⟨ret_int2 F.out.symm rfl, _, rfl⟩
  · have F := Lib.hid (show ceilV a b = d by rw [CF.out, if_neg h, Int.add_zero])
    go_enter Tryd.func86, Tryd.ntmps86
    go_wp2_with fail
    refine (DV.out _).mono ?_
    rintro e w1 ⟨rfl, k, rfl⟩
    go_wp2
    go_ret2
    exact ⟨ret_int2 F.out.symm rfl, _, rfl⟩
set_option maxHeartbeats 1000000 in
theorem RCeil_any (p q : Int) (w : World) (hf : Fit p q) :
    Calls Tryd.prog 54 #[.agg #[.int .i64 p, .int .i64 q]] w fun e w' => e = .returned (.tuple #[.int .i64 (rceilV p q), .int .i64 (isE p q)]) ∧ Below w.heap.size w w' := by
  cases h : isR p q
  · have F := Lib.hid (show rceilV p q = 0 ∧ isE p q = 30 by unfold rceilV isE; rw [h]; exact ⟨rfl, rfl⟩)
    go_enter Tryd.func54, Tryd.ntmps54
    go_wp2_with fail
    refine (RIs_any p q _ hf).mono ?_
    rintro e w1 ⟨rfl, hb1⟩
    go_wp2
    go_ret2
    exact ⟨ret_int2 F.out.1.symm F.out.2.symm, bt hb1 (below_alloc1 _ _)⟩
  · have F := Lib.hid (show rceilV p q = ceilV p q ∧ isE p q = 0 by unfold rceilV isE; rw [h]; exact ⟨rfl, rfl⟩)
    obtain ⟨x1, x2, x3, x4, _⟩ := isR_true h
    have CV := Lib.hid (fun W => RNCeil_any p q W x3 x4 x1 x2)
    obtain ⟨c, ec⟩ : ∃ c, ceilV p q = c := ⟨_, rfl⟩
    rw [ec] at CV F
    go_enter Tryd.func54, Tryd.ntmps54
    go_wp2_with fail
    refine (RIs_any p q _ hf).mono ?_
    rintro e w1 ⟨rfl, hb1⟩
    have c0 := cell_at_below hb1 w.heap.size 0 (.int .i64 p) (by go_simp)
    have c1 := cell_at_below hb1 w.heap.size 1 (.int .i64 q) (by go_simp)
    go_wp2_with fail
    refine (CV.out _).mono ?_
    rintro e w2 ⟨rfl, k, rfl⟩
    go_wp2
    go_ret2
    exact ⟨ret_int2 F.out.1.symm F.out.2.symm, below_drewN (bt hb1 (below_alloc1 _ _)) _⟩
set_option maxHeartbeats 2000000 in
set_option maxRecDepth 100000 in
theorem RPart_any (n p q : Int) (w : World) (hn : -9223372036854775808 ≤ n ∧ n ≤ 9223372036854775807) (hf : Fit p q) :
    Calls Tryd.prog 56 #[.int .i64 n, .agg #[.int .i64 p, .int .i64 q]] w fun e w' => e = .returned (.tuple #[.int .i64 (partV n p q), .int .i64 (partE n p q)]) ∧ Below w.heap.size w w' := by
  cases h : isR p q
  · have F := Lib.hid (show partV n p q = 0 ∧ partE n p q = 30 by unfold partV partE; rw [h]; exact ⟨rfl, rfl⟩)
    go_enter Tryd.func56, Tryd.ntmps56
    go_wp2_with fail
    refine (RIs_any p q _ hf).mono ?_
    rintro e w1 ⟨rfl, hb1⟩
    go_wp2
    go_ret2
    exact ⟨ret_int2 F.out.1.symm F.out.2.symm, bt hb1 (below_alloc1 _ _)⟩
  · have F := Lib.hid (show partV n p q = fitsV (n * p / q) ∧ partE n p q = fitsE (n * p / q) by unfold partV partE; rw [if_pos h, if_pos h]; exact ⟨rfl, rfl⟩)
    obtain ⟨x1, x2, x3, x4, _⟩ := isR_true h
    have RP := ref_part n p q x1
    have m2 := Int.emod_nonneg n (show q ≠ 0 by omega)
    have m3 := Int.emod_lt_of_pos n (show 0 < q by omega)
    have b1 := mul60 (a := n % q) (b := p) ⟨by omega, by omega⟩ ⟨x3, x4⟩
    have d0 : -9223372036854775808 ≤ n / q := by
      apply Int.le_ediv_of_mul_le (by omega)
      omega
    have d1 : n / q ≤ 9223372036854775807 := by
      have : n / q ≤ 9223372036854775807 / q := Int.ediv_le_ediv (by omega) hn.2
      have h2 := Int.ediv_le_self q (show (0 : Int) ≤ 9223372036854775807 by omega)
      omega
    have D1 := Lib.hid (fun W => RDiv_any n q W hn.1 hn.2 x1 (by omega))
    obtain ⟨d, ed⟩ : ∃ d, n / q = d := ⟨_, rfl⟩
    obtain ⟨m, em⟩ : ∃ m, n % q = m := ⟨_, rfl⟩
    rw [ed, em] at D1 RP
    rw [em] at b1
    rw [ed] at d0 d1
    have D2 := Lib.hid (fun W => RDiv_any (m * p) q W (by omega) (by omega) x1 (by omega))
    have l0 : -1152921504606846976 ≤ m * p / q := by
      apply Int.le_ediv_of_mul_le (by omega)
      omega
    have l1 : m * p / q ≤ 1152921504606846976 := by
      have : m * p / q ≤ 1152921504606846976 / q := Int.ediv_le_ediv (by omega) (by omega)
      have h2 := Int.ediv_le_self q (show (0 : Int) ≤ 1152921504606846976 by omega)
      omega
    have I1 := Lib.hid (fun W => Int_any d W d0 d1)
    have I2 := Lib.hid (fun W => Int_any p W hf.1.1 hf.1.2)
    obtain ⟨lo, elo⟩ : ∃ x, m * p / q = x := ⟨_, rfl⟩
    rw [elo] at D2 RP l0 l1
    have I3 := Lib.hid (fun W => Int_any lo W (by omega) (by omega))
    have HRP := Lib.hid RP
    clear RP m2 m3 ed em elo l0 l1 d0 d1
    go_enter Tryd.func56, Tryd.ntmps56
    go_wp2_with fail
    refine (RIs_any p q _ hf).mono ?_
    rintro e w1 ⟨rfl, hb1⟩
    have c0 := cell_at_below hb1 w.heap.size 0 (.int .i64 p) (by go_simp)
    have c1 := cell_at_below hb1 w.heap.size 1 (.int .i64 q) (by go_simp)
    have W1 := Lib.hid (bt hb1 (below_alloc1 _ _))
    clear hb1
    go_wp2_with fail
    refine (D1.out _).mono ?_
    rintro e w2 ⟨rfl, k, rfl⟩
    go_wp2_with fail
    refine (D2.out _).mono ?_
    rintro e w3 ⟨rfl, k2, rfl⟩
    go_wp2_with fail
    refine wp_region_held_drew (S := (fun w' => w'.cell? ⟨w.heap.size, 0, none⟩ = some (.int .i64 p))) (by kernel_rfl) ?_ (fun hHeld => ?_)
    · go_keep
    refine wpAnyH_take (i := 0) (oi := ?oi0) (v := ?v0) ?hi0 (by kernel_rfl) ?hf0 (by kernel_rfl) ?hq0 ?hy0 hHeld ?rest0
    case hi0 => (simp only [List.getElem?_toArray, List.getElem?_cons_zero]; try exact rfl)
    case hf0 => kernel_rfl
    case hq0 => exact fun _ _ _ h => h
    case hy0 => (refine Or.inl ⟨rfl, ?_⟩; intro w hSw; (try dsimp only at hSw); go_simp; try with_reducible rfl)
    try simp only [Act.put, List.setIfInBounds_toArray, List.set_cons_zero, List.set_cons_succ]
    refine wpAnyH_take (i := 2) (oi := ?oi2) (v := ?v2) ?hi2 (by kernel_rfl) ?hf2 (by kernel_rfl) ?hq2 ?hy2 hHeld ?rest2
    case hi2 => (simp only [List.getElem?_toArray, List.getElem?_cons_succ, List.getElem?_cons_zero]; try exact rfl)
    case hf2 => kernel_rfl
    case hq2 => exact fun _ _ _ h => h
    case hy2 => (refine Or.inl ⟨rfl, ?_⟩; intro w hSw; (try dsimp only at hSw); go_simp; try with_reducible rfl)
    try simp only [Act.put, List.setIfInBounds_toArray, List.set_cons_zero, List.set_cons_succ]
    refine wpAnyH_take (i := 3) (oi := ?oi3) (v := ?v3) ?hi3 (by kernel_rfl) ?hf3 (by kernel_rfl) ?hq3 ?hy3 hHeld ?rest3
    case hi3 => (simp only [List.getElem?_toArray, List.getElem?_cons_succ, List.getElem?_cons_zero]; try exact rfl)
    case hf3 => kernel_rfl
    case hq3 => exact fun _ _ _ h => h
    case hy3 => (refine Or.inl ⟨rfl, ?_⟩; intro w hSw; (try dsimp only at hSw); go_simp; try with_reducible rfl)
    try simp only [Act.put, List.setIfInBounds_toArray, List.set_cons_zero, List.set_cons_succ]
    refine wpAnyH_take (i := 6) (oi := ?oi6) (v := ?v6) ?hi6 (by kernel_rfl) ?hf6 (by kernel_rfl) ?hq6 ?hy6 hHeld ?rest6
    case hi6 => (simp only [List.getElem?_toArray, List.getElem?_cons_succ, List.getElem?_cons_zero]; try exact rfl)
    case hf6 => kernel_rfl
    case hq6 => exact fun _ _ _ h => h
    case hy6 => (refine Or.inl ⟨rfl, ?_⟩; intro w hSw; (try dsimp only at hSw); go_simp; try with_reducible rfl)
    try simp only [Act.put, List.setIfInBounds_toArray, List.set_cons_zero, List.set_cons_succ]
    refine wpAnyH_ready (rs := [1]) (by kernel_rfl) (by simp) ?_
    refine AllReadyH.cons (by simp only [List.getElem?_toArray, List.getElem?_cons_succ, List.getElem?_cons_zero]; try exact rfl) (fun K hK => ?_) AllReadyH.nil
    go_simp
    refine (I1.out _).mono ?_; rintro e w4 ⟨⟨v1, rfl, hv1⟩, hb4⟩; have HV1 := Lib.hid hv1; have kk := cell_at_below hb4 _ _ _ hHeld; have X4 := Lib.hid (bt hb4 (below_drewN W1.out _)); have B4 := Lib.hid hb4; clear hv1 hb4
    try go_wp2_with fail
    refine hK.out _ _ ?_ (fun hHeld => ?_)
    · exact kk
    clear hK K
    try simp only [Act.put, List.setIfInBounds_toArray, List.set_cons_zero, List.set_cons_succ]
    refine wpAnyH_ready (rs := [4]) (by kernel_rfl) (by simp) ?_
    refine AllReadyH.cons (by simp only [List.getElem?_toArray, List.getElem?_cons_succ, List.getElem?_cons_zero]; try exact rfl) (fun K hK => ?_) AllReadyH.nil
    go_simp
    refine (I2.out _).mono ?_; rintro e w5 ⟨⟨v2, rfl, hv2⟩, hb5⟩; have HV2 := Lib.hid hv2; have kk := cell_at_below hb5 _ _ _ hHeld; have X5 := Lib.hid (bt hb5 X4.out); have B5 := Lib.hid hb5; clear hv2 hb5
    try go_wp2_with fail
    refine hK.out _ _ ?_ (fun hHeld => ?_)
    · exact kk
    clear hK K
    try simp only [Act.put, List.setIfInBounds_toArray, List.set_cons_zero, List.set_cons_succ]
    refine wpAnyH_ready (rs := [5]) (by kernel_rfl) (by simp) ?_
    refine AllReadyH.cons (by simp only [List.getElem?_toArray, List.getElem?_cons_succ, List.getElem?_cons_zero]; try exact rfl) (fun K hK => ?_) AllReadyH.nil
    go_simp
    refine (Product_any _ _ d p 4 4 _ ((HV1.out.below B5.out (Nat.le_refl _)).more B5.out.size (Nat.le_refl _)) HV2.out (by omega) (by omega)).mono ?_; rintro e w6 ⟨⟨v3, rfl, hv3⟩, hb6⟩; have HV3 := Lib.hid hv3; have kk := cell_at_below hb6 _ _ _ hHeld; have X6 := Lib.hid (bt hb6 X5.out); clear hv3 hb6
    try go_wp2_with fail
    refine hK.out _ _ ?_ (fun hHeld => ?_)
    · exact kk
    clear hK K
    try simp only [Act.put, List.setIfInBounds_toArray, List.set_cons_zero, List.set_cons_succ]
    refine wpAnyH_ready (rs := [7]) (by kernel_rfl) (by simp) ?_
    refine AllReadyH.cons (by simp only [List.getElem?_toArray, List.getElem?_cons_succ, List.getElem?_cons_zero]; try exact rfl) (fun K hK => ?_) AllReadyH.nil
    go_simp
    refine (I3.out _).mono ?_; rintro e w7 ⟨⟨v4, rfl, hv4⟩, hb7⟩; have HV4 := Lib.hid hv4; have kk := cell_at_below hb7 _ _ _ hHeld; have X7 := Lib.hid (bt hb7 X6.out); have B7 := Lib.hid hb7; clear hv4 hb7
    try go_wp2_with fail
    refine hK.out _ _ ?_ (fun hHeld => ?_)
    · exact kk
    clear hK K
    try simp only [Act.put, List.setIfInBounds_toArray, List.set_cons_zero, List.set_cons_succ]
    refine wpAnyH_ready (rs := [8]) (by kernel_rfl) (by simp) ?_
    refine AllReadyH.cons (by simp only [List.getElem?_toArray, List.getElem?_cons_succ, List.getElem?_cons_zero]; try exact rfl) (fun K hK => ?_) AllReadyH.nil
    go_simp
    refine (Both_any _ _ (d * p) lo 8 4 _ ((HV3.out.below B7.out (Nat.le_refl _)).more B7.out.size (Nat.le_refl _)) HV4.out (by omega) (by omega)).mono ?_; rintro e w8 ⟨⟨v5, rfl, hv5⟩, hb8⟩; have HV5 := Lib.hid hv5; have kk := cell_at_below hb8 _ _ _ hHeld; have X8 := Lib.hid (bt hb8 X7.out); clear hv5 hb8
    try go_wp2_with fail
    refine hK.out _ _ ?_ (fun hHeld => ?_)
    · exact kk
    clear hK K
    try simp only [Act.put, List.setIfInBounds_toArray, List.set_cons_zero, List.set_cons_succ]
    refine wpAnyH_ready (rs := [9]) (by kernel_rfl) (by simp) ?_
    refine AllReadyH.cons (by simp only [List.getElem?_toArray, List.getElem?_cons_succ, List.getElem?_cons_zero]; try exact rfl) (fun K hK => ?_) AllReadyH.nil
    go_simp
    refine (Fits_any _ (d * p + lo) _ _ HV5.out (by omega)).mono ?_; rintro e w9 ⟨rfl, hb9⟩; have kk := cell_at_below hb9 _ _ _ hHeld; have X9 := Lib.hid (bt hb9 X8.out); clear hb9
    try go_wp2_with fail
    refine hK.out _ _ ?_ (fun hHeld => ?_)
    · exact kk
    clear hK K
    try simp only [Act.put, List.setIfInBounds_toArray, List.set_cons_zero, List.set_cons_succ]
    refine wpAnyH_take (i := 10) (oi := ?oi10) (v := ?v10) ?hi10 (by kernel_rfl) ?hf10 (by kernel_rfl) ?hq10 ?hy10 hHeld ?rest10
    case hi10 => (simp only [List.getElem?_toArray, List.getElem?_cons_succ, List.getElem?_cons_zero]; try exact rfl)
    case hf10 => kernel_rfl
    case hq10 => exact fun _ _ _ h => h
    case hy10 => (refine Or.inl ⟨rfl, ?_⟩; intro w hSw; (try dsimp only at hSw); go_simp; try with_reducible rfl)
    try simp only [Act.put, List.setIfInBounds_toArray, List.set_cons_zero, List.set_cons_succ]
    refine wpAnyH_take (i := 11) (oi := ?oi11) (v := ?v11) ?hi11 (by kernel_rfl) ?hf11 (by kernel_rfl) ?hq11 ?hy11 hHeld ?rest11
    case hi11 => (simp only [List.getElem?_toArray, List.getElem?_cons_succ, List.getElem?_cons_zero]; try exact rfl)
    case hf11 => kernel_rfl
    case hq11 => exact fun _ _ _ h => h
    case hy11 => (refine Or.inl ⟨rfl, ?_⟩; intro w hSw; (try dsimp only at hSw); go_simp; try with_reducible rfl)
    try simp only [Act.put, List.setIfInBounds_toArray, List.set_cons_zero, List.set_cons_succ]
    refine wpAnyH_take (i := 12) (oi := ?oi12) (v := ?v12) ?hi12 (by kernel_rfl) ?hf12 (by kernel_rfl) ?hq12 ?hy12 hHeld ?rest12
    case hi12 => (simp only [List.getElem?_toArray, List.getElem?_cons_succ, List.getElem?_cons_zero]; try exact rfl)
    case hf12 => kernel_rfl
    case hq12 => exact fun _ _ _ h => h
    case hy12 => (refine Or.inl ⟨rfl, ?_⟩; intro w hSw; (try dsimp only at hSw); go_simp; try with_reducible rfl)
    try simp only [Act.put, List.setIfInBounds_toArray, List.set_cons_zero, List.set_cons_succ]
    refine wpAnyH_take (i := 13) (oi := ?oi13) (v := ?v13) ?hi13 (by kernel_rfl) ?hf13 (by kernel_rfl) ?hq13 ?hy13 hHeld ?rest13
    case hi13 => (simp only [List.getElem?_toArray, List.getElem?_cons_succ, List.getElem?_cons_zero]; try exact rfl)
    case hf13 => kernel_rfl
    case hq13 => exact fun _ _ _ h => h
    case hy13 => (refine Or.inl ⟨rfl, ?_⟩; intro w hSw; (try dsimp only at hSw); go_simp; try with_reducible rfl)
    try simp only [Act.put, List.setIfInBounds_toArray, List.set_cons_zero, List.set_cons_succ]
    refine wpAnyH_done (by kernel_rfl) ?_ _
    go_wp2
    go_ret2
    exact ⟨ret_int2 (by rw [F.out.1, HRP.out]) (by rw [F.out.2, HRP.out]), X9.out⟩
set_option maxHeartbeats 1000000 in
theorem RFloor_any (p q : Int) (w : World) (hf : Fit p q) :
    Calls Tryd.prog 52 #[.agg #[.int .i64 p, .int .i64 q]] w fun e w' => e = .returned (.tuple #[.int .i64 (floorV p q), .int .i64 (isE p q)]) ∧ Below w.heap.size w w' := by
  have HE := Lib.hid (show partV 1 p q = floorV p q ∧ partE 1 p q = isE p q by
    unfold partV partE floorV isE
    cases h : isR p q
    · exact ⟨rfl, rfl⟩
    · obtain ⟨x1, x2, x3, x4, _⟩ := isR_true h
      have hlo : -1073741824 ≤ p / q := by
        apply Int.le_ediv_of_mul_le (by omega)
        omega
      have hhi : p / q ≤ 1073741824 := by
        have : p / q ≤ 1073741824 / q := Int.ediv_le_ediv (by omega) x4
        have h2 := Int.ediv_le_self q (show (0 : Int) ≤ 1073741824 by omega)
        omega
      obtain ⟨g1, g2⟩ := fits_in (z := p / q) (by omega) (by omega)
      rw [Int.one_mul, if_pos rfl, if_pos rfl, if_pos rfl, if_pos rfl, g1, g2]
      exact ⟨rfl, rfl⟩)
  go_enter Tryd.func52, Tryd.ntmps52
  go_wp2_with fail
  refine (RPart_any 1 p q _ (by omega) hf).mono ?_
  rintro e w1 ⟨rfl, hb1⟩
  rw [HE.out.1, HE.out.2]
  go_wp2
  go_ret2
  exact ⟨rfl, bt hb1 (below_alloc1 _ _)⟩
end Go.Proofs.YtdpmijmofeechaaDoor.RefPt
