/- The walks of score.Level and copseref13.Level. -/
import Derived.Test.YtdpmijmofeechaaDoorScoW
import Derived.Test.YtdpmijmofeechaaDoorHarmX
import Derived.Deep.RegionHeld3
import Derived.Deep.DeepMust
namespace Go.Proofs.YtdpmijmofeechaaDoor.LvlW
set_option linter.unusedVariables false
open Go.RowKit Base BigM BigZ GcdM RatM RatW RefRat Glob WideM WideW Rat2 TextW PartW HarmM HarmX ScoW

theorem norm_fin : ∀ k : Fin 63, 1 ≤ norm ((k.val : Int) + 2) := by decide +kernel
theorem norm_pos {n : Int} (h1 : 2 ≤ n) (h2 : n ≤ 64) : 1 ≤ norm n ∧ norm n ≤ 549755814400 := by
  have a := eLo_bd n
  have b := eHi_bd n
  have h := norm_fin ⟨(n - 2).toNat, by omega⟩
  rw [show (((n - 2).toNat : Nat) : Int) + 2 = n by omega] at h
  exact ⟨h, by unfold norm; omega⟩
def lvl (p q n : Int) : Int := norm n * q * 1000 / (norm n * q + p)
def levelV (p q n : Int) : Int := if (2 ≤ n ∧ n ≤ 64) ∧ isS p q = true then lvl p q n else 0
def levelE (p q n : Int) : Int := if ¬ (2 ≤ n ∧ n ≤ 64) then 1 else if isS p q = true then 0 else 130
theorem level_arg {p q n : Int} (h : ¬ (2 ≤ n ∧ n ≤ 64)) : levelV p q n = 0 ∧ levelE p q n = 1 := by
  unfold levelV levelE; rw [if_neg (fun k => h k.1), if_pos h]; exact ⟨rfl, rfl⟩
theorem level_no {p q n : Int} (h : 2 ≤ n ∧ n ≤ 64) (hs : isS p q = false) : levelV p q n = 0 ∧ levelE p q n = 130 := by
  unfold levelV levelE; rw [if_neg (by rw [hs]; exact fun k => by cases k.2), if_neg (fun k => k h), hs]; exact ⟨rfl, rfl⟩
theorem level_yes {p q n : Int} (h : 2 ≤ n ∧ n ≤ 64) (hs : isS p q = true) : levelV p q n = lvl p q n ∧ levelE p q n = 0 := by
  unfold levelV levelE; rw [if_pos ⟨h, hs⟩, if_neg (fun k => k h), if_pos hs]; exact ⟨rfl, rfl⟩
theorem c_bd {n q : Int} (h : 1 ≤ norm n ∧ norm n ≤ 549755814400) (h1 : 1 ≤ q) (h2 : q ≤ 16) : 1 ≤ norm n * q ∧ norm n * q ≤ 8796093030400 := by
  have a := Int.mul_le_mul h.2 h2 (by omega) (by omega)
  have b := Int.mul_pos (show 0 < norm n by omega) (show 0 < q by omega)
  exact ⟨by omega, by omega⟩
theorem WMul_lvl (C : Int) (h0 : 1 ≤ C) (h1 : C ≤ 8796093030400) (w : World) : Calls Tryd.prog 74 #[.int .u64 1000, .int .u64 C] w fun e w' => e = .returned (.agg #[.int .u64 0, .int .u64 (C * 1000)]) ∧ Below w.heap.size w w' := by
  have h := WMul_any 1000 C w (by omega) (by omega) (by omega) (by omega)
  rw [show (1000 * C / 18446744073709551616 : Int) = 0 by omega, show (1000 * C % 18446744073709551616 : Int) = C * 1000 by omega] at h
  exact h
set_option maxHeartbeats 2000000 in
set_option maxRecDepth 100000 in
theorem Level_any (p q n : Int) (w : World) (h1 : Fit p q) :
    Calls Tryd.prog 33 #[.agg #[.int .i64 p, .int .i64 q], .int .i64 n] w fun e w' => e = .returned (.tuple #[.int .i64 (levelV p q n), .int .i64 (levelE p q n)]) ∧ Below w.heap.size w w' := by
  by_cases ha : n < 2
  · have F := Lib.hid (level_arg (p := p) (q := q) (n := n) (by omega))
    go_enter Tryd.func33, Tryd.ntmps33
    go_wp2
    go_ret2
    exact ⟨ret_int2 F.out.1.symm F.out.2.symm, below_alloc1 _ _⟩
  by_cases hb : 64 < n
  · have F := Lib.hid (level_arg (p := p) (q := q) (n := n) (by omega))
    go_enter Tryd.func33, Tryd.ntmps33
    go_wp2
    go_ret2
    exact ⟨ret_int2 F.out.1.symm F.out.2.symm, below_alloc1 _ _⟩
  cases hs : isS p q
  · have F := Lib.hid (level_no (p := p) (q := q) (n := n) (by omega) hs)
    go_enter Tryd.func33, Tryd.ntmps33
    go_wp2_with fail
    refine (SIs_any p q _ h1).mono ?_
    rintro e w1 ⟨rfl, hb1⟩
    go_wp2
    go_ret2
    exact ⟨ret_int2 F.out.1.symm F.out.2.symm, bt hb1 (below_alloc1 _ _)⟩
  · have F := Lib.hid (level_yes (p := p) (q := q) (n := n) (by omega) hs)
    obtain ⟨s1, s2, s3, s4, _⟩ := isS_true hs
    have hcb := c_bd (norm_pos (n := n) (by omega) (by omega)) s1 s2
    have HL := Lib.hid (show lvl p q n = norm n * q * 1000 / (norm n * q + p) from rfl)
    obtain ⟨N, eN⟩ : ∃ N, norm n = N := ⟨_, rfl⟩
    rw [eN] at hcb HL
    obtain ⟨C, eC⟩ : ∃ C, N * q = C := ⟨_, rfl⟩
    rw [eC] at hcb HL
    have EN := Lib.hid eN
    have EC := Lib.hid eC
    have hwN := IntWalk.i64_in C (by omega)
    have hw1 : IntKind.u64.wrap C = C := IntWalk.u64_in _ (by omega)
    have hw2 : IntKind.u64.wrap (C + p) = C + p := IntWalk.u64_in _ (by omega)
    have HW1 := Lib.hid hw1
    have HW2 := Lib.hid hw2
    have HW3 := Lib.hid (IntWalk.i64_in (C + p) (by omega))
    have HS := Lib.hid hs
    clear eN hs
    go_enter Tryd.func33, Tryd.ntmps33
    go_wp2_with fail
    refine (SIs_any p q _ h1).mono ?_
    rintro e w1 ⟨rfl, hb1⟩
    rw [HS.out]
    have c0 := cell_at_below hb1 w.heap.size 0 (.int .i64 p) (by go_simp)
    have c1 := cell_at_below hb1 w.heap.size 1 (.int .i64 q) (by go_simp)
    have hz : w.heap.size < w1.heap.size := Nat.lt_of_lt_of_le (by simp) hb1.size
    have HB1 := Lib.hid (bt hb1 (below_alloc1 w _))
    clear hb1
    go_wp2_with fail
    go_quiet ((go_at_call 72; exact Calls.quiet_of (Norm_any n _)))
    have HBQ := Lib.hid (below_drewN HB1.out nq)
    have c0 : (w1.drewN nq).cell? ⟨w.heap.size, 0, none⟩ = some (.int .i64 p) := c0
    have hz : w.heap.size < (w1.drewN nq).heap.size := hz
    generalize w1.drewN nq = wq at *
    have HDIV := Lib.hid (fun W => WDiv_lo (C * 1000) (C + p) W (by omega) (by omega) (by omega) (by omega))
    have HMUL := Lib.hid (fun W => WMul_lvl C hcb.1 hcb.2 W)
    obtain ⟨L, eL⟩ : ∃ L, C * 1000 / (C + p) = L := ⟨_, rfl⟩
    have hL : 0 ≤ L ∧ L ≤ 1000 := by
      rw [← eL]
      exact ⟨Int.ediv_nonneg (by omega) (by omega), by
        have := Int.ediv_le_of_le_mul (a := C * 1000) (b := 1000) (c := C + p) (by omega) (by omega)
        omega⟩
    have EL := Lib.hid eL
    have e6 : wrap64 (norm n * q) = C := by rw [EN.out, EC.out]; exact IntWalk.wrap64_in C (by omega)
    go_wp2_with fail
    rw [e6]
    clear e6 eL
    have hq1 : wq.heap.size < wq.heap.size + 1 := Nat.lt_add_one _
    have hq1' : w.heap.size < wq.heap.size + 1 := Nat.lt_succ_of_lt hz
    have hn1 := Nat.ne_of_lt hz
    have hn1' := Nat.ne_of_gt hz
    have hq1a : ∀ o, wq.heap.size < (wq.alloc o).heap.size := fun o => (by simp)
    have hq1b : ∀ o, w.heap.size < (wq.alloc o).heap.size := fun o => (by simp; omega)
    go_region_held3 (fun w' => w'.cell? ⟨w.heap.size, 0, none⟩ = some (.int .i64 p))
      (first | (go_keep; done) | (exact e0) | (exact d0))
      ((first | (go_at_call 74; (try rw [HW1.out]); go_must ((with_reducible refine (HMUL.out _).mono ?_)); rintro e w2 ⟨rfl, hb2⟩; have d0 := cell_at_below hb2 w.heap.size 0 (.int .i64 p) (by first | assumption | (go_simp; done) | (simp [*]; done)); have hz2 : w.heap.size < w2.heap.size := Nat.lt_of_lt_of_le (by first | assumption | (simp; omega)) hb2.size; have hz2' := Nat.lt_succ_of_lt hz2; have hn2 := Nat.ne_of_lt hz2; have hn2' := Nat.ne_of_gt hz2; obtain ⟨hc2, hf2⟩ := bcell hb2; have hs2 := hb2.size; have hq4 := fun (n : Nat) h => Nat.lt_of_lt_of_le (n := n) h hs2; clear hs2; have hq2 : w2.heap.size < w2.heap.size + 1 := Nat.lt_add_one _; have hq2' : w.heap.size < w2.heap.size + 1 := Nat.lt_succ_of_lt hz2; have hq2a : ∀ o, w2.heap.size < (w2.alloc o).heap.size := fun o => (by simp); have hq2b : ∀ o, w.heap.size < (w2.alloc o).heap.size := fun o => (by simp; omega)) | (go_at_call 73; (try rw [HW3.out]); (try rw [HW2.out]); go_must ((with_reducible refine (HDIV.out _).mono ?_)); rintro e w3 ⟨rfl, hb3⟩; rw [EL.out]; have e0 := cell_at_below hb3 w.heap.size 0 (.int .i64 p) (by first | assumption | (go_simp; done) | (simp [*]; done)); have hz3 : w.heap.size < w3.heap.size := Nat.lt_of_lt_of_le (by first | assumption | (simp; omega)) hb3.size; have hz3' := Nat.lt_succ_of_lt hz3; have hn3 := Nat.ne_of_lt hz3; have hn3' := Nat.ne_of_gt hz3; obtain ⟨hc3, hf3⟩ := bcell hb3; have hs3 := hb3.size; have hq5 := fun (n : Nat) h => Nat.lt_of_lt_of_le (n := n) h hs3; clear hs3; have hq3 : w3.heap.size < w3.heap.size + 1 := Nat.lt_add_one _; have hq3' : w.heap.size < w3.heap.size + 1 := Nat.lt_succ_of_lt hz3)))
    rotate_left 2
    have p0 : w3.cell? ⟨wq.heap.size, 0, none⟩ = some (.int .u64 0) := cell_at_below hb3 _ _ _ (cell_at_below hb2 _ _ _ (by go_simp))
    have p1 : w3.cell? ⟨wq.heap.size, 1, none⟩ = some (.int .u64 0) := cell_at_below hb3 _ _ _ (cell_at_below hb2 _ _ _ (by go_simp))
    have p2 : w3.frozen? ⟨wq.heap.size, 0, none⟩ = false := free_at_below hb3 _ _ (free_at_below hb2 _ _ (by go_simp) (by go_simp)) (hq4 _ (by go_simp))
    have p3 : w3.frozen? ⟨wq.heap.size, 1, none⟩ = false := free_at_below hb3 _ _ (free_at_below hb2 _ _ (by go_simp) (by go_simp)) (hq4 _ (by go_simp))
    have p4 : wq.heap.size < w3.heap.size := hq5 _ (hq4 _ (by go_simp))
    all_goals
      have hwL := IntWalk.i64_in L (by omega)
      go_wp2
      go_ret2
      refine ⟨ret_int2 (by rw [F.out.1, HL.out, EL.out]) F.out.2.symm, ?_⟩
      repeat' (first | exact HBQ.out | refine Below.setCell ?_ ?_ _ | refine Below.alloc ?_ ?_ _ | refine Below.drew ?_ | refine bt hb3 ?_ | refine bt hb2 ?_)
      all_goals (first | omega | (show w.heap.size ≤ w3.heap.size; omega) | (show w.heap.size ≤ w2.heap.size; omega) | (show w.heap.size ≤ wq.heap.size; omega))
set_option maxHeartbeats 1000000 in
theorem RLevel_any (p q n : Int) (w : World) (h1 : Fit p q) :
    Calls Tryd.prog 34 #[.agg #[.int .i64 p, .int .i64 q], .int .i64 n] w fun e w' => e = .returned (.tuple #[.int .i64 (levelV p q n), .int .i64 (levelE p q n)]) ∧ Below w.heap.size w w' := by
  by_cases ha : n < 2
  · have F := Lib.hid (level_arg (p := p) (q := q) (n := n) (by omega))
    go_enter Tryd.func34, Tryd.ntmps34
    go_wp2
    go_ret2
    exact ⟨ret_int2 F.out.1.symm F.out.2.symm, below_alloc1 _ _⟩
  by_cases hb : 64 < n
  · have F := Lib.hid (level_arg (p := p) (q := q) (n := n) (by omega))
    go_enter Tryd.func34, Tryd.ntmps34
    go_wp2
    go_ret2
    exact ⟨ret_int2 F.out.1.symm F.out.2.symm, below_alloc1 _ _⟩
  cases hs : isS p q
  · have F := Lib.hid (level_no (p := p) (q := q) (n := n) (by omega) hs)
    go_enter Tryd.func34, Tryd.ntmps34
    go_wp2_with fail
    refine (RSIs_any p q _ h1).mono ?_
    rintro e w1 ⟨rfl, hb1⟩
    go_wp2
    go_ret2
    exact ⟨ret_int2 F.out.1.symm F.out.2.symm, bt hb1 (below_alloc1 _ _)⟩
  · have F := Lib.hid (level_yes (p := p) (q := q) (n := n) (by omega) hs)
    obtain ⟨s1, s2, s3, s4, _⟩ := isS_true hs
    have hcb := c_bd (norm_pos (n := n) (by omega) (by omega)) s1 s2
    have HL := Lib.hid (show lvl p q n = norm n * q * 1000 / (norm n * q + p) from rfl)
    obtain ⟨N, eN⟩ : ∃ N, norm n = N := ⟨_, rfl⟩
    rw [eN] at hcb HL
    obtain ⟨C, eC⟩ : ∃ C, N * q = C := ⟨_, rfl⟩
    rw [eC] at hcb HL
    have EN := Lib.hid eN
    have EC := Lib.hid eC
    have HS := Lib.hid hs
    clear eN hs eC
    go_enter Tryd.func34, Tryd.ntmps34
    go_wp2_with fail
    refine (RSIs_any p q _ h1).mono ?_
    rintro e w1 ⟨rfl, hb1⟩
    rw [HS.out]
    have c0 := cell_at_below hb1 w.heap.size 0 (.int .i64 p) (by go_simp)
    have c1 := cell_at_below hb1 w.heap.size 1 (.int .i64 q) (by go_simp)
    have HB1 := Lib.hid (bt hb1 (below_alloc1 w _))
    clear hb1
    go_wp2_with fail
    go_quiet ((go_at_call 75; exact Calls.quiet_of (RNorm_any n _)))
    have HBQ := Lib.hid (below_drewN HB1.out nq)
    have e6 : wrap64 (norm n * q) = C := by rw [EN.out, EC.out]; exact IntWalk.wrap64_in C (by omega)
    have hz : (C + p == 0) = false := by simpa using (by omega : C + p ≠ 0)
    have hdv : wrap64 ((C * 1000).tdiv (C + p)) = C * 1000 / (C + p) := by
      rw [Int.tdiv_eq_ediv_of_nonneg (by omega)]
      have a := Int.ediv_nonneg (show 0 ≤ C * 1000 by omega) (show 0 ≤ C + p by omega)
      have b := Int.ediv_le_self (C + p) (show 0 ≤ C * 1000 by omega)
      exact IntWalk.wrap64_in _ (by omega)
    go_wp2_with fail
    go_ret2
    refine ⟨ret_int2 ?_ F.out.2.symm, HBQ.out⟩
    rw [F.out.1, HL.out]
end Go.Proofs.YtdpmijmofeechaaDoor.LvlW
