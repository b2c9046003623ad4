/- The walk of ratio.Part at every input. -/
import Derived.Test.YtdpmijmofeechaaDoorPartW
import Derived.Test.YtdpmijmofeechaaDoorPartM
import Derived.Test.YtdpmijmofeechaaDoorDivW
import Derived.Deep.DeepCutAuto
namespace Go.Proofs.YtdpmijmofeechaaDoor.PartV
set_option linter.unusedVariables false
open Go.RowKit Base BigM BigZ GcdM RatM RatW RefRat Glob WideM WideW Rat2 TextW PartW PartM DivM

theorem Div64_any (hi lo y : Int) (w : World) (a0 : 0 ≤ hi) (a1 : hi < y) (l0 : 0 ≤ lo) (l1 : lo ≤ 18446744073709551615) (y1 : y < 2147483648) :
    Calls Tryd.prog 106 #[.int .u64 hi, .int .u64 lo, .int .u64 y] w fun e w' => e = .returned (.tuple #[.int .u64 ((hi * 18446744073709551616 + lo) / y), .int .u64 ((hi * 18446744073709551616 + lo) % y)]) ∧ Below w.heap.size w w' := by
  by_cases h : hi = 0
  · subst h
    rw [Int.zero_mul, Int.zero_add]
    exact Div64_lo lo y w l0 l1 (by omega) (by omega)
  · exact (DivW.Div64_hi hi lo y w (by omega) a1 l0 l1 y1).mono fun e w' ⟨he, hw⟩ => ⟨he, by subst hw; exact Below.refl _ _⟩
set_option maxHeartbeats 1000000 in
/-- wide.Div where the divisor is below 2^31 -/
theorem WDiv_any (N y : Int) (w : World) (h0 : 0 ≤ N) (h1 : N ≤ 340282366920938463463374607431768211455) (y0 : 1 ≤ y) (y1 : y < 2147483648) :
    Calls Tryd.prog 73 #[.agg #[.int .u64 (N / 18446744073709551616), .int .u64 (N % 18446744073709551616)], .int .u64 y] w fun e w' =>
      e = .returned (.tuple #[.agg #[.int .u64 (N / y / 18446744073709551616), .int .u64 (N / y % 18446744073709551616)], .int .u64 (N % y), .int .i64 0]) ∧ Below w.heap.size w w' := by
  have hy : (y == 0) = false := by simpa using (by omega : y ≠ 0)
  obtain ⟨e1, e2, e3⟩ := wide_div N y h0 y0
  rw [← e1, ← e2, ← e3]
  clear e1 e2 e3
  obtain ⟨H, eH⟩ : ∃ H, N / 18446744073709551616 = H := ⟨_, rfl⟩
  obtain ⟨L, eL⟩ : ∃ L, N % 18446744073709551616 = L := ⟨_, rfl⟩
  rw [eH, eL]
  have hH : 0 ≤ H ∧ H ≤ 18446744073709551615 := by omega
  have hL : 0 ≤ L ∧ L ≤ 18446744073709551615 := by omega
  have a2 := Int.emod_nonneg H (show y ≠ 0 by omega)
  have a3 := Int.emod_lt_of_pos H (show 0 < y by omega)
  have a4 := Int.ediv_nonneg hH.1 (show 0 ≤ y by omega)
  have a5 := Int.ediv_le_self y hH.1
  have t1 : H.tdiv y = H / y := Int.tdiv_eq_ediv_of_nonneg hH.1
  have t2 : H.tmod y = H % y := Int.tmod_eq_emod_of_nonneg hH.1
  have DV := Lib.hid (fun W => Div64_any (H % y) L y W a2 a3 hL.1 hL.2 y1)
  obtain ⟨A, eA⟩ : ∃ A, H / y = A := ⟨_, rfl⟩
  obtain ⟨R, eR⟩ : ∃ R, H % y = R := ⟨_, rfl⟩
  rw [eR] at DV a2 a3 t2 ⊢
  rw [eA] at a4 a5 t1 ⊢
  obtain ⟨B, eB⟩ : ∃ B, (R * 18446744073709551616 + L) / y = B := ⟨_, rfl⟩
  obtain ⟨C, eC⟩ : ∃ C, (R * 18446744073709551616 + L) % y = C := ⟨_, rfl⟩
  rw [eB, eC] at DV ⊢
  clear eH eL eB eC
  go_enter Tryd.func73, Tryd.ntmps73
  go_wp2_with fail
  go_quiet (fail)
  go_wp2_with fail
  refine (DV.out _).mono ?_
  rintro e w1 ⟨rfl, hb1⟩
  obtain ⟨k0, k1, u0, u1, hz⟩ := keepR hb1 (r := w.heap.size + 1) (c0 := .int .u64 0) (c1 := .int .u64 0) (by go_simp) (by go_simp) (by go_simp) (by go_simp)
  have hb := (below_drewN (below_alloc2 w _ _) _).trans (hb1.mono (below_drewN (below_alloc2 w _ _) _).size)
  clear hb1
  go_wp2
  refine bodyPost_ret (v := .tuple #[.agg #[.int .u64 A, .int .u64 B], .int .u64 C, .int .i64 0]) (by simp [results, Tryd.results73, go_sem, k0, k1]) rfl ?_
  exact ⟨rfl, Below.setCell (Below.setCell hb (by show w.heap.size ≤ w.heap.size + 1; omega) _) (by show w.heap.size ≤ w.heap.size + 1; omega) _⟩
set_option maxHeartbeats 1000000 in
theorem Part_no (n p q : Int) (w : World) (hf : Fit p q) (hr : isR p q = false) :
    Calls Tryd.prog 55 #[.int .i64 n, .agg #[.int .i64 p, .int .i64 q]] w fun e w' => e = .returned (.tuple #[.int .i64 (partV n p q), .int .i64 (partE n p q)]) ∧ Below w.heap.size w w' := by
  have F := Lib.hid (show partV n p q = 0 ∧ partE n p q = 30 by unfold partV partE; rw [hr]; exact ⟨rfl, rfl⟩)
  have HR := Lib.hid hr
  clear hr
  go_enter Tryd.func55, Tryd.ntmps55
  go_wp2_with fail
  refine (Is_any p q _ hf.1.1 hf.1.2 hf.2.1 hf.2.2).mono ?_
  rintro e w1 ⟨rfl, hb1⟩
  rw [HR.out]
  go_wp2
  go_ret2
  exact ⟨ret_int2 F.out.1.symm F.out.2.symm, bt hb1 (below_alloc1 _ _)⟩
theorem neg_back (L : Int) (h0 : 0 ≤ L) (h1 : L ≤ 9223372036854775808) : wrap64 (IntKind.u64.wrap (-L)) = -L := by
  rw [IntKind.wrap_u64]; unfold wrap64; omega
/-- the size of the number and its part's size, and the quotient -/
structure PartCut (w : World) (p q H L : Int) (s6 s7 : Value) (R : Int) (wx : World) : Prop where
  ex : ∃ g : Nat, s6 = .pointer (some ⟨g, 0, none⟩) ∧ w.heap.size ≤ g ∧ g < wx.heap.size ∧ w.heap.size ≠ g ∧ wx.cell? ⟨g, 0, none⟩ = some (.int .u64 H) ∧ wx.cell? ⟨g, 1, none⟩ = some (.int .u64 L) ∧ wx.frozen? ⟨g, 0, none⟩ = false ∧ wx.frozen? ⟨g, 1, none⟩ = false
  rest : s7 = .int .u64 R
  c0 : wx.cell? ⟨w.heap.size, 0, none⟩ = some (.int .i64 p)
  c1 : wx.cell? ⟨w.heap.size, 1, none⟩ = some (.int .i64 q)
  below : Below w.heap.size w wx
set_option maxHeartbeats 4000000 in
set_option maxRecDepth 100000 in
theorem Part_yes (n p q : Int) (w : World) (hn : -9223372036854775808 ≤ n ∧ n ≤ 9223372036854775807) (hf : Fit p q) (hr : isR p q = true) :
    Calls Tryd.prog 55 #[.int .i64 n, .agg #[.int .i64 p, .int .i64 q]] w fun e w' => e = .returned (.tuple #[.int .i64 (partV n p q), .int .i64 (partE n p q)]) ∧ Below w.heap.size w w' := by
  obtain ⟨r1, r2, r3, r4, _⟩ := isR_true hr
  have F := Lib.hid (show partV n p q = fitsV (n * p / q) ∧ partE n p q = fitsE (n * p / q) by unfold partV partE; rw [if_pos hr, if_pos hr]; exact ⟨rfl, rfl⟩)
  have HR := Lib.hid hr
  clear hr
  have SN := Lib.hid (fun W => PartW.size_any n W hn.1 hn.2)
  have SP := Lib.hid (fun W => PartW.size_any p W hf.1.1 hf.1.2)
  have SG := Lib.hid (natAbs_mul_sign n p)
  have hA : (0 : Int) ≤ n.natAbs ∧ (n.natAbs : Int) ≤ 9223372036854775808 := by omega
  have hB : (0 : Int) ≤ p.natAbs ∧ (p.natAbs : Int) ≤ 1073741824 := by omega
  obtain ⟨A, eA⟩ : ∃ A : Int, (n.natAbs : Int) = A := ⟨_, rfl⟩
  obtain ⟨B, eB⟩ : ∃ B : Int, (p.natAbs : Int) = B := ⟨_, rfl⟩
  rw [eA] at SN SG hA
  rw [eB] at SP SG hB
  have ML := Lib.hid (fun W => WMul_any A B W (by omega) (by omega) (by omega) (by omega))
  have hN0 : 0 ≤ A * B := Int.mul_nonneg hA.1 hB.1
  have hN1 : A * B ≤ 9903520314283042199192993792 := by
    have := Int.mul_le_mul hA.2 hB.2 hB.1 (by omega)
    omega
  obtain ⟨N, eN⟩ : ∃ N : Int, A * B = N := ⟨_, rfl⟩
  rw [eN] at ML SG hN0 hN1
  have DV := Lib.hid (fun W => WDiv_any N q W hN0 (by omega) r1 (by omega))
  have hM0 := Int.ediv_nonneg hN0 (show 0 ≤ q by omega)
  have hM1 := Int.ediv_le_self q hN0
  have hR0 := Int.emod_nonneg N (show q ≠ 0 by omega)
  have hR1 := Int.emod_lt_of_pos N (show 0 < q by omega)
  have ND := Lib.hid (neg_div N q r1)
  obtain ⟨M, eM⟩ : ∃ M, N / q = M := ⟨_, rfl⟩
  obtain ⟨R, eR⟩ : ∃ R, N % q = R := ⟨_, rfl⟩
  rw [eM] at DV ND hM0 hM1
  rw [eR] at DV ND hR0 hR1
  have EM := Lib.hid eM
  clear eA eB eN eM eR
  have hH : 0 ≤ M / 18446744073709551616 ∧ M / 18446744073709551616 ≤ 536870912 := by omega
  have hL : 0 ≤ M % 18446744073709551616 ∧ M % 18446744073709551616 ≤ 18446744073709551615 := by omega
  obtain ⟨NH, eNH⟩ : ∃ x, N / 18446744073709551616 = x := ⟨_, rfl⟩
  obtain ⟨NL, eNL⟩ : ∃ x, N % 18446744073709551616 = x := ⟨_, rfl⟩
  obtain ⟨H, eH⟩ : ∃ x, M / 18446744073709551616 = x := ⟨_, rfl⟩
  obtain ⟨L, eL⟩ : ∃ x, M % 18446744073709551616 = x := ⟨_, rfl⟩
  rw [eNH, eNL] at ML DV
  rw [eH, eL] at DV
  rw [eH] at hH
  rw [eL] at hL
  have EH := Lib.hid eH
  have EL := Lib.hid eL
  clear eNH eNL eH eL hN0 hN1 hM1
  have hqw : IntKind.u64.wrap q = q := wr _ (by omega) (by omega)
  go_enter Tryd.func55, Tryd.ntmps55
  go_wp2_with fail
  refine (Is_any p q _ hf.1.1 hf.1.2 hf.2.1 hf.2.2).mono ?_
  rintro e w1 ⟨rfl, hb1⟩
  rw [HR.out]
  obtain ⟨c0, c1, f0, f1, hz⟩ := keepR hb1 (r := w.heap.size) (c0 := .int .i64 p) (c1 := .int .i64 q) (by go_simp) (by go_simp) (by go_simp) (by go_simp)
  have hz : w.heap.size < w1.heap.size := hz
  have hb := Lib.hid ((below_alloc1 w (.cells #[.int .i64 p, .int .i64 q] 23)).trans (hb1.mono (below_alloc1 _ _).size))
  clear hb1
  go_upto_region 3 with fail
  go_cut [6, 7] (fun s6 s7 wx => PartCut w p q H L s6 s7 R wx)
  case first =>
    have hn1 := Nat.ne_of_lt hz
    have hn1' := Nat.ne_of_gt hz
    have hq1 : w1.heap.size < w1.heap.size + 1 := Nat.lt_add_one _
    have hq1' : w.heap.size < w1.heap.size + 1 := Nat.lt_succ_of_lt hz
    have hq1a : ∀ o, w1.heap.size < (w1.alloc o).heap.size := fun o => (by simp)
    have hq1b : ∀ o, w.heap.size < (w1.alloc o).heap.size := fun o => (by simp; omega)
    go_region_held3 (fun w' => w'.cell? ⟨w.heap.size, 0, none⟩ = some (.int .i64 p) ∧ w'.cell? ⟨w.heap.size, 1, none⟩ = some (.int .i64 q))
      (first | (go_keep; done) | (exact ⟨e0, e1⟩) | (exact ⟨d0, d1⟩))
      ((first | (go_at_call_of 87 (Value.int IntKind.i64 p); refine (SP.out _).mono ?_; rintro e w5 ⟨rfl, rfl⟩) | (go_at_call_of 87 (Value.int IntKind.i64 n); refine (SN.out _).mono ?_; rintro e w5 ⟨rfl, rfl⟩) | (go_at_call 74; refine (ML.out _).mono ?_; rintro e w2 ⟨rfl, hb2⟩; have d0 := cell_at_below hb2 w.heap.size 0 (.int .i64 p) (by first | assumption | (go_simp; done) | (simp [*]; done)); have d1 := cell_at_below hb2 w.heap.size 1 (.int .i64 q) (by first | assumption | (go_simp; done) | (simp [*]; done)); have hz2 : w.heap.size < w2.heap.size := Nat.lt_of_lt_of_le (by first | assumption | (simp; omega)) hb2.size; have hz2' := Nat.lt_succ_of_lt hz2; have hn2 := Nat.ne_of_lt hz2; have hn2' := Nat.ne_of_gt hz2; obtain ⟨hc2, hf2⟩ := bcell hb2; have hs2 := hb2.size; have hq4 := fun (n : Nat) h => Nat.lt_of_lt_of_le (n := n) h hs2; clear hs2; have hq2 : w2.heap.size < w2.heap.size + 1 := Nat.lt_add_one _; have hq2' : w.heap.size < w2.heap.size + 1 := Nat.lt_succ_of_lt hz2; have hq2a : ∀ o, w2.heap.size < (w2.alloc o).heap.size := fun o => (by simp); have hq2b : ∀ o, w.heap.size < (w2.alloc o).heap.size := fun o => (by simp; omega)) | (go_at_call 73; (try rw [hqw]); refine (DV.out _).mono ?_; rintro e w3 ⟨rfl, hb3⟩; have e0 := cell_at_below hb3 w.heap.size 0 (.int .i64 p) (by first | assumption | (go_simp; done) | (simp [*]; done)); have e1 := cell_at_below hb3 w.heap.size 1 (.int .i64 q) (by first | assumption | (go_simp; done) | (simp [*]; done)); have hz3 : w.heap.size < w3.heap.size := Nat.lt_of_lt_of_le (by first | assumption | (simp; omega)) hb3.size; have hz3' := Nat.lt_succ_of_lt hz3; have hn3 := Nat.ne_of_lt hz3; have hn3' := Nat.ne_of_gt hz3; obtain ⟨hc3, hf3⟩ := bcell hb3; have hs3 := hb3.size; have hq5 := fun (n : Nat) h => Nat.lt_of_lt_of_le (n := n) h hs3; clear hs3; have hq3 : w3.heap.size < w3.heap.size + 1 := Nat.lt_add_one _; have hq3' : w.heap.size < w3.heap.size + 1 := Nat.lt_succ_of_lt hz3)))
    all_goals (go_wp2_with fail; go_meet)
    · exact ⟨⟨_, rfl, by omega, by go_simp, by omega, by go_simp, by go_simp, by go_simp, by go_simp⟩, rfl, by go_simp, by go_simp, (bt hb3 (bt hb2 hb.out.drew)).alloc (by omega) _⟩
    · have p0 : w3.cell? ⟨w2.heap.size, 0, none⟩ = some (.int .u64 0) := cell_at_below hb3 _ _ _ (by go_simp)
      have p1 : w3.cell? ⟨w2.heap.size, 1, none⟩ = some (.int .u64 0) := cell_at_below hb3 _ _ _ (by go_simp)
      have p2 : w3.frozen? ⟨w2.heap.size, 0, none⟩ = false := free_at_below hb3 _ _ (by go_simp) (by go_simp)
      have p3 : w3.frozen? ⟨w2.heap.size, 1, none⟩ = false := free_at_below hb3 _ _ (by go_simp) (by go_simp)
      have p4 : w2.heap.size < w3.heap.size := hq5 _ (by go_simp)
      clear hc2 hf2 hc3 hf3 hq4 hq5
      exact ⟨⟨_, rfl, by omega, by go_simp, by omega, by go_simp, by go_simp, by go_simp, by go_simp⟩, rfl, by go_simp, by go_simp, Below.setCell (Below.setCell (bt hb3 ((bt hb2 hb.out.drew).alloc (by omega) _)) (by show w.heap.size ≤ w2.heap.size; omega) _) (by show w.heap.size ≤ w2.heap.size; omega) _⟩
    all_goals
      have p0 : w3.cell? ⟨w1.heap.size, 0, none⟩ = some (.int .u64 0) := cell_at_below hb3 _ _ _ (cell_at_below hb2 _ _ _ (by go_simp))
      have p1 : w3.cell? ⟨w1.heap.size, 1, none⟩ = some (.int .u64 0) := cell_at_below hb3 _ _ _ (cell_at_below hb2 _ _ _ (by go_simp))
      have p2 : w3.frozen? ⟨w1.heap.size, 0, none⟩ = false := free_at_below hb3 _ _ (free_at_below hb2 _ _ (by go_simp) (by go_simp)) (hq4 _ (by go_simp))
      have p3 : w3.frozen? ⟨w1.heap.size, 1, none⟩ = false := free_at_below hb3 _ _ (free_at_below hb2 _ _ (by go_simp) (by go_simp)) (hq4 _ (by go_simp))
      have p4 : w1.heap.size < w3.heap.size := hq5 _ (hq4 _ (by go_simp))
      clear hc2 hf2 hc3 hf3 hq4 hq5
      exact ⟨⟨_, rfl, by omega, by go_simp, by omega, by go_simp, by go_simp, by go_simp, by go_simp⟩, rfl, by go_simp, by go_simp, Below.setCell (Below.setCell (bt hb3 (bt hb2 (hb.out.drew.alloc (by simp; omega) _))) (by show w.heap.size ≤ w1.heap.size; omega) _) (by show w.heap.size ≤ w1.heap.size; omega) _⟩
  case rest =>
    obtain ⟨⟨g, rfl, hg0, hg1, hg2, G0, G1, G2, G3⟩, rfl, C0, C1, HB⟩ := hcut
    have HB := Lib.hid HB
    clear hb hz c0 c1 f0 f1
    by_cases hn0 : n < 0
    · by_cases hp0 : p < 0
      · skip
        have hs : n * p / q = M := by rw [SG.out.2 (by omega)]; exact EM.out
        by_cases hH0 : 0 < H
        · have FV := Lib.hid (show fitsV (n * p / q) = 0 ∧ fitsE (n * p / q) = 10 by rw [hs]; exact fits_out (by have := EH.out; omega))
          clear hs
          go_wp2
          go_ret2
          exact ⟨ret_int2 (by rw [F.out.1, FV.out.1]) (by rw [F.out.2, FV.out.2]), HB.out⟩
        · have hH1 : H = 0 := by omega
          subst hH1
          have hML : M = L := by have := EH.out; have := EL.out; omega
          by_cases hL0 : 9223372036854775808 < L
          · have FV := Lib.hid (show fitsV (n * p / q) = 0 ∧ fitsE (n * p / q) = 10 by rw [hs]; exact fits_out (by omega))
            clear hs hML
            go_wp2
            go_ret2
            exact ⟨ret_int2 (by rw [F.out.1, FV.out.1]) (by rw [F.out.2, FV.out.2]), HB.out⟩
          · by_cases hL1 : L = 9223372036854775808
            · subst hL1
              have FV := Lib.hid (show fitsV (n * p / q) = 0 ∧ fitsE (n * p / q) = 10 by rw [hs]; exact fits_out (by omega))
              clear hs hML
              go_wp2
              go_ret2
              exact ⟨ret_int2 (by rw [F.out.1, FV.out.1]) (by rw [F.out.2, FV.out.2]), HB.out⟩
            · have FV := Lib.hid (show fitsV (n * p / q) = L ∧ fitsE (n * p / q) = 0 by rw [hs, hML]; exact fits_in (by omega) (by omega))
              have hL2 : (L == 9223372036854775808) = false := by simpa using hL1
              clear hs hML
              go_wp2
              go_ret2
              exact ⟨ret_int2 (by rw [F.out.1, FV.out.1]) (by rw [F.out.2, FV.out.2]), HB.out⟩
      · skip
        have hs : n * p / q = (if 0 < R then -(M + 1) else -M) := by rw [SG.out.1 (by omega)]; exact ND.out
        by_cases hR2 : 0 < R
        · rw [if_pos hR2] at hs
          have AD := Lib.hid (fun W => WAdd_any H L 0 1 ⟨by omega, by omega⟩ ⟨hL.1, hL.2⟩ ⟨by omega, by omega⟩ ⟨by omega, by omega⟩ (by omega) W)
          have E2 := Lib.hid (show H + 0 + (L + 1) / 18446744073709551616 = (M + 1) / 18446744073709551616 ∧ (L + 1) % 18446744073709551616 = (M + 1) % 18446744073709551616 by have := EH.out; have := EL.out; omega)
          rw [E2.out.1, E2.out.2] at AD
          have k2 : 0 ≤ (M + 1) / 18446744073709551616 ∧ (M + 1) / 18446744073709551616 ≤ 536870913 := by have := E2.out.1; omega
          have k3 : 0 ≤ (M + 1) % 18446744073709551616 ∧ (M + 1) % 18446744073709551616 ≤ 18446744073709551615 := by omega
          clear E2
          obtain ⟨H2, eH2⟩ : ∃ x, (M + 1) / 18446744073709551616 = x := ⟨_, rfl⟩
          obtain ⟨L2, eL2⟩ : ∃ x, (M + 1) % 18446744073709551616 = x := ⟨_, rfl⟩
          rw [eH2, eL2] at AD
          rw [eH2] at k2
          rw [eL2] at k3
          have EH2 := Lib.hid eH2
          have EL2 := Lib.hid eL2
          clear eH2 eL2
          go_upto_region 6 with fail
          go_cut [6] (fun s6 wx => s6 = .pointer (some ⟨g, 0, none⟩) ∧ wx.cell? ⟨g, 0, none⟩ = some (.int .u64 H2) ∧ wx.cell? ⟨g, 1, none⟩ = some (.int .u64 L2) ∧ Below w.heap.size w wx)
          case first =>
            go_region_law ((first | (go_simp; go_at_call 89; refine (WOf_any 1 _).mono ?_; rintro e w5 ⟨rfl, hb5⟩; have o0 := cell_at_below hb5 g 0 (.int .u64 H) (by first | assumption | (go_simp; done)); have o1 := cell_at_below hb5 g 1 (.int .u64 L) (by first | assumption | (go_simp; done)); have o2 := free_at_below hb5 g 0 (by first | assumption | (go_simp; done)) (by first | assumption | (go_simp; done)); have o3 := free_at_below hb5 g 1 (by first | assumption | (go_simp; done)) (by first | assumption | (go_simp; done)); have o4 : g < w5.heap.size := Nat.lt_of_lt_of_le (by first | assumption | (go_simp; done)) hb5.size; obtain ⟨hc5, hf5⟩ := bcell hb5; have hs5 := hb5.size; have hq8 := fun (n : Nat) h => Nat.lt_of_lt_of_le (n := n) h hs5; clear hs5) | (go_simp; go_at_call 88; refine (AD.out _).mono ?_; rintro e w6 ⟨rfl, hb6⟩; have u0 := cell_at_below hb6 g 0 (.int .u64 H) (by first | assumption | (go_simp; done)); have u1 := cell_at_below hb6 g 1 (.int .u64 L) (by first | assumption | (go_simp; done)); have u2 := free_at_below hb6 g 0 (by first | assumption | (go_simp; done)) (by first | assumption | (go_simp; done)); have u3 := free_at_below hb6 g 1 (by first | assumption | (go_simp; done)) (by first | assumption | (go_simp; done)); have u4 : g < w6.heap.size := Nat.lt_of_lt_of_le (by first | assumption | (go_simp; done)) hb6.size; obtain ⟨hc6, hf6⟩ := bcell hb6; have hs6 := hb6.size; have hq9 := fun (n : Nat) h => Nat.lt_of_lt_of_le (n := n) h hs6; clear hs6)))
            all_goals
              go_wp2_with fail
              go_meet
              refine ⟨rfl, by go_simp, by go_simp, ?_⟩
              refine Below.setCell (Below.setCell (bt hb6 ?_) hg0 _) hg0 _
              repeat' (first | exact HB.out | refine Below.drew ?_ | refine below_drewN ?_ _ | refine bt hb5 ?_)
          case rest =>
            obtain ⟨rfl, G4, G5, HB2⟩ := hcut
            have HB2 := Lib.hid HB2
            clear HB G0 G1 G2 G3
            by_cases hH0 : 0 < H2
            · have FV := Lib.hid (show fitsV (n * p / q) = 0 ∧ fitsE (n * p / q) = 10 by rw [hs]; exact fits_out (by have := EH2.out; omega))
              clear hs
              go_wp2
              go_ret2
              exact ⟨ret_int2 (by rw [F.out.1, FV.out.1]) (by rw [F.out.2, FV.out.2]), HB2.out⟩
            · have hH1 : H2 = 0 := by omega
              subst hH1
              have hML : M + 1 = L2 := by have := EH2.out; have := EL2.out; omega
              by_cases hL0 : 9223372036854775808 < L2
              · have FV := Lib.hid (show fitsV (n * p / q) = 0 ∧ fitsE (n * p / q) = 10 by rw [hs]; exact fits_out (by omega))
                clear hs hML
                go_wp2
                go_ret2
                exact ⟨ret_int2 (by rw [F.out.1, FV.out.1]) (by rw [F.out.2, FV.out.2]), HB2.out⟩
              · have FV := Lib.hid (show fitsV (n * p / q) = -L2 ∧ fitsE (n * p / q) = 0 by rw [hs, hML]; exact fits_in (by omega) (by omega))
                clear hs hML
                by_cases hL1 : L2 = 9223372036854775808
                · subst hL1
                  go_wp2
                  go_ret2
                  exact ⟨ret_int2 (by rw [F.out.1, FV.out.1]; decide +kernel) (by rw [F.out.2, FV.out.2]), HB2.out⟩
                · have hL2 : (L2 == 9223372036854775808) = false := by simpa using hL1
                  have hwL : wrap64 (IntKind.u64.wrap (-L2)) = -L2 := neg_back L2 (by omega) (by omega)
                  go_wp2
                  go_ret2
                  exact ⟨ret_int2 (by rw [F.out.1, FV.out.1]) (by rw [F.out.2, FV.out.2]), HB2.out⟩
        · rw [if_neg hR2] at hs
          have hR3 : R = 0 := by omega
          subst hR3
          by_cases hH0 : 0 < H
          · have FV := Lib.hid (show fitsV (n * p / q) = 0 ∧ fitsE (n * p / q) = 10 by rw [hs]; exact fits_out (by have := EH.out; omega))
            clear hs
            go_wp2
            go_ret2
            exact ⟨ret_int2 (by rw [F.out.1, FV.out.1]) (by rw [F.out.2, FV.out.2]), HB.out⟩
          · have hH1 : H = 0 := by omega
            subst hH1
            have hML : M = L := by have := EH.out; have := EL.out; omega
            by_cases hL0 : 9223372036854775808 < L
            · have FV := Lib.hid (show fitsV (n * p / q) = 0 ∧ fitsE (n * p / q) = 10 by rw [hs]; exact fits_out (by omega))
              clear hs hML
              go_wp2
              go_ret2
              exact ⟨ret_int2 (by rw [F.out.1, FV.out.1]) (by rw [F.out.2, FV.out.2]), HB.out⟩
            · have FV := Lib.hid (show fitsV (n * p / q) = -L ∧ fitsE (n * p / q) = 0 by rw [hs, hML]; exact fits_in (by omega) (by omega))
              clear hs hML
              by_cases hL1 : L = 9223372036854775808
              · subst hL1
                go_wp2
                go_ret2
                exact ⟨ret_int2 (by rw [F.out.1, FV.out.1]; decide +kernel) (by rw [F.out.2, FV.out.2]), HB.out⟩
              · have hL2 : (L == 9223372036854775808) = false := by simpa using hL1
                have hwL : wrap64 (IntKind.u64.wrap (-L)) = -L := neg_back L (by omega) (by omega)
                go_wp2
                go_ret2
                exact ⟨ret_int2 (by rw [F.out.1, FV.out.1]) (by rw [F.out.2, FV.out.2]), HB.out⟩
    · by_cases hp0 : p < 0
      · skip
        have hs : n * p / q = (if 0 < R then -(M + 1) else -M) := by rw [SG.out.1 (by omega)]; exact ND.out
        by_cases hR2 : 0 < R
        · rw [if_pos hR2] at hs
          have AD := Lib.hid (fun W => WAdd_any H L 0 1 ⟨by omega, by omega⟩ ⟨hL.1, hL.2⟩ ⟨by omega, by omega⟩ ⟨by omega, by omega⟩ (by omega) W)
          have E2 := Lib.hid (show H + 0 + (L + 1) / 18446744073709551616 = (M + 1) / 18446744073709551616 ∧ (L + 1) % 18446744073709551616 = (M + 1) % 18446744073709551616 by have := EH.out; have := EL.out; omega)
          rw [E2.out.1, E2.out.2] at AD
          have k2 : 0 ≤ (M + 1) / 18446744073709551616 ∧ (M + 1) / 18446744073709551616 ≤ 536870913 := by have := E2.out.1; omega
          have k3 : 0 ≤ (M + 1) % 18446744073709551616 ∧ (M + 1) % 18446744073709551616 ≤ 18446744073709551615 := by omega
          clear E2
          obtain ⟨H2, eH2⟩ : ∃ x, (M + 1) / 18446744073709551616 = x := ⟨_, rfl⟩
          obtain ⟨L2, eL2⟩ : ∃ x, (M + 1) % 18446744073709551616 = x := ⟨_, rfl⟩
          rw [eH2, eL2] at AD
          rw [eH2] at k2
          rw [eL2] at k3
          have EH2 := Lib.hid eH2
          have EL2 := Lib.hid eL2
          clear eH2 eL2
          go_upto_region 6 with fail
          go_cut [6] (fun s6 wx => s6 = .pointer (some ⟨g, 0, none⟩) ∧ wx.cell? ⟨g, 0, none⟩ = some (.int .u64 H2) ∧ wx.cell? ⟨g, 1, none⟩ = some (.int .u64 L2) ∧ Below w.heap.size w wx)
          case first =>
            go_region_law ((first | (go_simp; go_at_call 89; refine (WOf_any 1 _).mono ?_; rintro e w5 ⟨rfl, hb5⟩; have o0 := cell_at_below hb5 g 0 (.int .u64 H) (by first | assumption | (go_simp; done)); have o1 := cell_at_below hb5 g 1 (.int .u64 L) (by first | assumption | (go_simp; done)); have o2 := free_at_below hb5 g 0 (by first | assumption | (go_simp; done)) (by first | assumption | (go_simp; done)); have o3 := free_at_below hb5 g 1 (by first | assumption | (go_simp; done)) (by first | assumption | (go_simp; done)); have o4 : g < w5.heap.size := Nat.lt_of_lt_of_le (by first | assumption | (go_simp; done)) hb5.size; obtain ⟨hc5, hf5⟩ := bcell hb5; have hs5 := hb5.size; have hq8 := fun (n : Nat) h => Nat.lt_of_lt_of_le (n := n) h hs5; clear hs5) | (go_simp; go_at_call 88; refine (AD.out _).mono ?_; rintro e w6 ⟨rfl, hb6⟩; have u0 := cell_at_below hb6 g 0 (.int .u64 H) (by first | assumption | (go_simp; done)); have u1 := cell_at_below hb6 g 1 (.int .u64 L) (by first | assumption | (go_simp; done)); have u2 := free_at_below hb6 g 0 (by first | assumption | (go_simp; done)) (by first | assumption | (go_simp; done)); have u3 := free_at_below hb6 g 1 (by first | assumption | (go_simp; done)) (by first | assumption | (go_simp; done)); have u4 : g < w6.heap.size := Nat.lt_of_lt_of_le (by first | assumption | (go_simp; done)) hb6.size; obtain ⟨hc6, hf6⟩ := bcell hb6; have hs6 := hb6.size; have hq9 := fun (n : Nat) h => Nat.lt_of_lt_of_le (n := n) h hs6; clear hs6)))
            all_goals
              go_wp2_with fail
              go_meet
              refine ⟨rfl, by go_simp, by go_simp, ?_⟩
              refine Below.setCell (Below.setCell (bt hb6 ?_) hg0 _) hg0 _
              repeat' (first | exact HB.out | refine Below.drew ?_ | refine below_drewN ?_ _ | refine bt hb5 ?_)
          case rest =>
            obtain ⟨rfl, G4, G5, HB2⟩ := hcut
            have HB2 := Lib.hid HB2
            clear HB G0 G1 G2 G3
            by_cases hH0 : 0 < H2
            · have FV := Lib.hid (show fitsV (n * p / q) = 0 ∧ fitsE (n * p / q) = 10 by rw [hs]; exact fits_out (by have := EH2.out; omega))
              clear hs
              go_wp2
              go_ret2
              exact ⟨ret_int2 (by rw [F.out.1, FV.out.1]) (by rw [F.out.2, FV.out.2]), HB2.out⟩
            · have hH1 : H2 = 0 := by omega
              subst hH1
              have hML : M + 1 = L2 := by have := EH2.out; have := EL2.out; omega
              by_cases hL0 : 9223372036854775808 < L2
              · have FV := Lib.hid (show fitsV (n * p / q) = 0 ∧ fitsE (n * p / q) = 10 by rw [hs]; exact fits_out (by omega))
                clear hs hML
                go_wp2
                go_ret2
                exact ⟨ret_int2 (by rw [F.out.1, FV.out.1]) (by rw [F.out.2, FV.out.2]), HB2.out⟩
              · have FV := Lib.hid (show fitsV (n * p / q) = -L2 ∧ fitsE (n * p / q) = 0 by rw [hs, hML]; exact fits_in (by omega) (by omega))
                clear hs hML
                by_cases hL1 : L2 = 9223372036854775808
                · subst hL1
                  go_wp2
                  go_ret2
                  exact ⟨ret_int2 (by rw [F.out.1, FV.out.1]; decide +kernel) (by rw [F.out.2, FV.out.2]), HB2.out⟩
                · have hL2 : (L2 == 9223372036854775808) = false := by simpa using hL1
                  have hwL : wrap64 (IntKind.u64.wrap (-L2)) = -L2 := neg_back L2 (by omega) (by omega)
                  go_wp2
                  go_ret2
                  exact ⟨ret_int2 (by rw [F.out.1, FV.out.1]) (by rw [F.out.2, FV.out.2]), HB2.out⟩
        · rw [if_neg hR2] at hs
          have hR3 : R = 0 := by omega
          subst hR3
          by_cases hH0 : 0 < H
          · have FV := Lib.hid (show fitsV (n * p / q) = 0 ∧ fitsE (n * p / q) = 10 by rw [hs]; exact fits_out (by have := EH.out; omega))
            clear hs
            go_wp2
            go_ret2
            exact ⟨ret_int2 (by rw [F.out.1, FV.out.1]) (by rw [F.out.2, FV.out.2]), HB.out⟩
          · have hH1 : H = 0 := by omega
            subst hH1
            have hML : M = L := by have := EH.out; have := EL.out; omega
            by_cases hL0 : 9223372036854775808 < L
            · have FV := Lib.hid (show fitsV (n * p / q) = 0 ∧ fitsE (n * p / q) = 10 by rw [hs]; exact fits_out (by omega))
              clear hs hML
              go_wp2
              go_ret2
              exact ⟨ret_int2 (by rw [F.out.1, FV.out.1]) (by rw [F.out.2, FV.out.2]), HB.out⟩
            · have FV := Lib.hid (show fitsV (n * p / q) = -L ∧ fitsE (n * p / q) = 0 by rw [hs, hML]; exact fits_in (by omega) (by omega))
              clear hs hML
              by_cases hL1 : L = 9223372036854775808
              · subst hL1
                go_wp2
                go_ret2
                exact ⟨ret_int2 (by rw [F.out.1, FV.out.1]; decide +kernel) (by rw [F.out.2, FV.out.2]), HB.out⟩
              · have hL2 : (L == 9223372036854775808) = false := by simpa using hL1
                have hwL : wrap64 (IntKind.u64.wrap (-L)) = -L := neg_back L (by omega) (by omega)
                go_wp2
                go_ret2
                exact ⟨ret_int2 (by rw [F.out.1, FV.out.1]) (by rw [F.out.2, FV.out.2]), HB.out⟩
      · skip
        have hs : n * p / q = M := by rw [SG.out.2 (by omega)]; exact EM.out
        by_cases hH0 : 0 < H
        · have FV := Lib.hid (show fitsV (n * p / q) = 0 ∧ fitsE (n * p / q) = 10 by rw [hs]; exact fits_out (by have := EH.out; omega))
          clear hs
          go_wp2
          go_ret2
          exact ⟨ret_int2 (by rw [F.out.1, FV.out.1]) (by rw [F.out.2, FV.out.2]), HB.out⟩
        · have hH1 : H = 0 := by omega
          subst hH1
          have hML : M = L := by have := EH.out; have := EL.out; omega
          by_cases hL0 : 9223372036854775808 < L
          · have FV := Lib.hid (show fitsV (n * p / q) = 0 ∧ fitsE (n * p / q) = 10 by rw [hs]; exact fits_out (by omega))
            clear hs hML
            go_wp2
            go_ret2
            exact ⟨ret_int2 (by rw [F.out.1, FV.out.1]) (by rw [F.out.2, FV.out.2]), HB.out⟩
          · by_cases hL1 : L = 9223372036854775808
            · subst hL1
              have FV := Lib.hid (show fitsV (n * p / q) = 0 ∧ fitsE (n * p / q) = 10 by rw [hs]; exact fits_out (by omega))
              clear hs hML
              go_wp2
              go_ret2
              exact ⟨ret_int2 (by rw [F.out.1, FV.out.1]) (by rw [F.out.2, FV.out.2]), HB.out⟩
            · have FV := Lib.hid (show fitsV (n * p / q) = L ∧ fitsE (n * p / q) = 0 by rw [hs, hML]; exact fits_in (by omega) (by omega))
              have hL2 : (L == 9223372036854775808) = false := by simpa using hL1
              clear hs hML
              go_wp2
              go_ret2
              exact ⟨ret_int2 (by rw [F.out.1, FV.out.1]) (by rw [F.out.2, FV.out.2]), HB.out⟩
theorem Part_any (n p q : Int) (w : World) (hn : -9223372036854775808 ≤ n ∧ n ≤ 9223372036854775807) (hf : Fit p q) :
    Calls Tryd.prog 55 #[.int .i64 n, .agg #[.int .i64 p, .int .i64 q]] w fun e w' => e = .returned (.tuple #[.int .i64 (partV n p q), .int .i64 (partE n p q)]) ∧ Below w.heap.size w w' := by
  cases hr : isR p q
  · exact Part_no n p q w hf hr
  · exact Part_yes n p q w hn hf hr
end Go.Proofs.YtdpmijmofeechaaDoor.PartV
