/- The walks of num.Div and num.Ceil at a divisor from 1 on; of ratio.Floor and ratio.Ceil. -/
import Derived.Test.YtdpmijmofeechaaDoorRat2
namespace Go.Proofs.YtdpmijmofeechaaDoor.Rat2
set_option linter.unusedVariables false
open Go.RowKit Base BigM BigZ GcdM RatM RatW RefRat Glob WideM WideW

theorem div_floor (a b : Int) (hb : 1 ≤ b) : (0 ≤ a.tmod b → a.tdiv b = a / b ∧ a.tmod b = a % b) ∧ (a.tmod b < 0 → a.tdiv b - 1 = a / b ∧ a.tmod b + b = a % b) ∧ -b < a.tmod b ∧ a.tmod b < b := by
  have h := Int.mul_tdiv_add_tmod a b
  have hlt : (a.tmod b).natAbs < b.natAbs := by rw [Int.natAbs_tmod]; exact Nat.mod_lt _ (by omega)
  refine ⟨fun h0 => ?_, fun h0 => ?_, by omega, by omega⟩
  · have e : a / b = a.tdiv b := by
      conv => lhs; rw [← h]
      rw [Int.add_comm, Int.add_mul_ediv_left _ _ (by omega), Int.ediv_eq_zero_of_lt h0 (by omega), Int.zero_add]
    refine ⟨e.symm, ?_⟩
    have h2 := Int.mul_ediv_add_emod a b
    rw [e] at h2
    omega
  · have e : a / b = a.tdiv b - 1 := by
      have h3 : a = (a.tmod b + b) + b * (a.tdiv b - 1) := by rw [Int.mul_sub, Int.mul_one]; omega
      conv => lhs; rw [h3]
      rw [Int.add_mul_ediv_left _ _ (by omega), Int.ediv_eq_zero_of_lt (by omega) (by omega), Int.zero_add]
    refine ⟨e.symm, ?_⟩
    have h2 := Int.mul_ediv_add_emod a b
    rw [e, Int.mul_sub, Int.mul_one] at h2
    omega
theorem ret_int3' {a b c x y z : Int} (h : a = x) (h2 : b = y) (h3 : c = z) : Ending.returned (.tuple #[.int .i64 a, .int .i64 b, .int .i64 c]) = .returned (.tuple #[.int .i64 x, .int .i64 y, .int .i64 z]) := by rw [h, h2, h3]
set_option maxHeartbeats 1000000 in
theorem NDiv_any (a b : Int) (w : World) (a0 : -9223372036854775807 ≤ a) (a1 : a ≤ 9223372036854775807) (b0 : 1 ≤ b) (b1 : b ≤ 9223372036854775807) :
    Calls Tryd.prog 84 #[.int .i64 a, .int .i64 b] w fun e w' => e = .returned (.tuple #[.int .i64 (a / b), .int .i64 (a % b), .int .i64 0]) ∧ ∃ q, w' = w.drewN q := by
  obtain ⟨f1, f2, f3, f4⟩ := div_floor a b b0
  have ht := tdiv_bd a b b0 ⟨by omega, a1⟩
  have hd := Int.mul_tdiv_add_tmod a b
  have hz : (b == 0) = false := by simp; omega
  have hm1 : (b == -1) = false := by simp; omega
  by_cases h : 0 ≤ a.tmod b
  · have F := Lib.hid (f1 h)
    clear f1 f2 hd
    · have hb : (a == -9223372036854775808) = false := by simp; omega
      go_enter Tryd.func84, Tryd.ntmps84
      go_wp2
      go_quiet (fail)
      go_wp2
      go_ret3
      exact ⟨ret_int3' F.out.1 F.out.2 rfl, _, rfl⟩
  · have F := Lib.hid (f2 (by omega))
    have ht2 : -9223372036854775808 ≤ a.tdiv b - 1 := by
      have h1 := F.out.1
      rw [h1]
      have : -9223372036854775808 / b ≤ a / b := Int.ediv_le_ediv (by omega) (by omega)
      have h2 : -9223372036854775808 ≤ (-9223372036854775808 : Int) / b := by
        apply Int.le_ediv_of_mul_le (by omega)
        omega
      omega
    clear f1 f2 hd
    · have hb : (a == -9223372036854775808) = false := by simp; omega
      go_enter Tryd.func84, Tryd.ntmps84
      go_wp2
      go_quiet (fail)
      go_wp2
      go_ret3
      exact ⟨ret_int3' F.out.1 F.out.2 rfl, _, rfl⟩
def ceilV (a b : Int) : Int := a.tdiv b + (if 0 < a.tmod b then 1 else 0)
set_option maxHeartbeats 1000000 in
theorem NCeil_any (a b : Int) (w : World) (a0 : -9223372036854775808 ≤ a) (a1 : a ≤ 9223372036854775807) (b0 : 1 ≤ b) (b1 : b ≤ 9223372036854775807) (hlt : a.tdiv b < 9223372036854775807) :
    Calls Tryd.prog 85 #[.int .i64 a, .int .i64 b] w fun e w' => e = .returned (.tuple #[.int .i64 (ceilV a b), .int .i64 0]) ∧ w = w' := by
  have ht := tdiv_bd a b b0 ⟨a0, a1⟩
  have hz : (b == 0) = false := by simp; omega
  by_cases h : 0 < a.tmod b
  · have F := Lib.hid (show ceilV a b = a.tdiv b + 1 by unfold ceilV; rw [if_pos h])
    go_enter Tryd.func85, Tryd.ntmps85
    go_wp2
    go_ret2
    exact ⟨ret_int2 F.out.symm rfl, rfl⟩
  · have F := Lib.hid (show ceilV a b = a.tdiv b by unfold ceilV; rw [if_neg h, Int.add_zero])
    go_enter Tryd.func85, Tryd.ntmps85
    go_wp2
    go_ret2
    exact ⟨ret_int2 F.out.symm rfl, rfl⟩
def floorV (p q : Int) : Int := if isR p q = true then p / q else 0
def isE (p q : Int) : Int := if isR p q = true then 0 else 30
set_option maxHeartbeats 1000000 in
theorem Floor_any (p q : Int) (w : World) (hf : Fit p q) :
    Calls Tryd.prog 51 #[.agg #[.int .i64 p, .int .i64 q]] w fun e w' => e = .returned (.tuple #[.int .i64 (floorV p q), .int .i64 (isE p q)]) ∧ Below w.heap.size w w' := by
  cases h : isR p q
  · have F := Lib.hid (show floorV p q = 0 ∧ isE p q = 30 by unfold floorV isE; rw [h]; exact ⟨rfl, rfl⟩)
    go_enter Tryd.func51, Tryd.ntmps51
    go_wp2_with fail
    refine (RatW.Is_any p q _ hf.1.1 hf.1.2 hf.2.1 hf.2.2).mono ?_
    rintro e w1 ⟨rfl, hb1⟩
    go_wp2
    go_ret2
    exact ⟨ret_int2 F.out.1.symm F.out.2.symm, (below_alloc1 _ _).trans (hb1.mono (below_alloc1 _ _).size)⟩
  · have F := Lib.hid (show floorV p q = p / q ∧ isE p q = 0 by unfold floorV isE; rw [h]; exact ⟨rfl, rfl⟩)
    obtain ⟨x1, x2, x3, x4, _⟩ := isR_true h
    go_enter Tryd.func51, Tryd.ntmps51
    go_wp2_with fail
    refine (RatW.Is_any p q _ hf.1.1 hf.1.2 hf.2.1 hf.2.2).mono ?_
    rintro e w1 ⟨rfl, hb1⟩
    obtain ⟨hc, hf⟩ := bcell hb1
    go_wp2_with fail
    refine (NDiv_any p q _ (by omega) (by omega) (by omega) (by omega)).mono ?_
    rintro e w2 ⟨rfl, k, rfl⟩
    go_wp2
    go_ret2
    exact ⟨ret_int2 F.out.1.symm F.out.2.symm, below_drewN ((below_alloc1 _ _).trans (hb1.mono (below_alloc1 _ _).size)) _⟩
def rceilV (p q : Int) : Int := if isR p q = true then ceilV p q else 0
set_option maxHeartbeats 1000000 in
theorem Ceil_any (p q : Int) (w : World) (hf : Fit p q) :
    Calls Tryd.prog 53 #[.agg #[.int .i64 p, .int .i64 q]] w fun e w' => e = .returned (.tuple #[.int .i64 (rceilV p q), .int .i64 (isE p q)]) ∧ Below w.heap.size w w' := by
  cases h : isR p q
  · have F := Lib.hid (show rceilV p q = 0 ∧ isE p q = 30 by unfold rceilV isE; rw [h]; exact ⟨rfl, rfl⟩)
    go_enter Tryd.func53, Tryd.ntmps53
    go_wp2_with fail
    refine (RatW.Is_any p q _ hf.1.1 hf.1.2 hf.2.1 hf.2.2).mono ?_
    rintro e w1 ⟨rfl, hb1⟩
    go_wp2
    go_ret2
    exact ⟨ret_int2 F.out.1.symm F.out.2.symm, (below_alloc1 _ _).trans (hb1.mono (below_alloc1 _ _).size)⟩
  · have F := Lib.hid (show rceilV p q = ceilV p q ∧ isE p q = 0 by unfold rceilV isE; rw [h]; exact ⟨rfl, rfl⟩)
    obtain ⟨x1, x2, x3, x4, _⟩ := isR_true h
    have hle : p.tdiv q ≤ 1073741824 := by
      have : (p.tdiv q).natAbs ≤ p.natAbs := by rw [Int.natAbs_tdiv]; exact Nat.div_le_self _ _
      omega
    go_enter Tryd.func53, Tryd.ntmps53
    go_wp2_with fail
    refine (RatW.Is_any p q _ hf.1.1 hf.1.2 hf.2.1 hf.2.2).mono ?_
    rintro e w1 ⟨rfl, hb1⟩
    obtain ⟨hc, hf⟩ := bcell hb1
    go_wp2_with fail
    refine (NCeil_any p q _ (by omega) (by omega) (by omega) (by omega) (by omega)).mono ?_
    rintro e w2 ⟨rfl, rfl⟩
    go_wp2
    go_ret2
    exact ⟨ret_int2 F.out.1.symm F.out.2.symm, (below_alloc1 _ _).trans (hb1.mono (below_alloc1 _ _).size)⟩
end Go.Proofs.YtdpmijmofeechaaDoor.Rat2
