/- num.Sum, walked: a sum that is longer than a number. -/
import Derived.Test.YtodiipkedhfncaaGreatDoorScoX
import Derived.Test.YtodiipkedhfncaaGreatDoorRptN
import Derived.Test.YtodiipkedhfncaaGreatDoorRptC
namespace Go.Proofs.YtodiipkedhfncaaGreatDoor.LngW
set_option linter.unusedVariables false
set_option linter.unusedSimpArgs false
open Go.RowKit Base BigZ RptN RptM RptC WidX SeqM

/-- a long sum as a value -/
def LV (z : Int) : Value := .agg #[.int .u64 (wd0 z), .int .u64 (wd1 z), .int .u64 (wd2 z)]
set_option maxHeartbeats 1000000 in
theorem fits_any (z : Int) (h0 : -9223372036854775808 ≤ z) (h1 : z ≤ 9223372036854775807) (w : World) :
    Calls Tryz.prog 92 #[LV z] w fun e w' => e = .returned (.tuple #[.int .i64 z, .int .i64 0]) ∧ Below w.heap.size w w' := by
  have hf := fit_wd z h0 h1
  have hr := wd_range z
  have hw : IntKind.i64.wrap (wd0 z) = z := by
    have h3 := hf.1
    unfold IntKind.wrap
    simp [IntKind.bits, IntKind.signed]
    split at h3 <;> omega
  unfold LV
  by_cases hz : z < 0
  · obtain ⟨e1, e2⟩ := hf.2.1 hz
    rw [e1, e2]
    generalize wd0 z = a at *
    clear hf hr e1 e2
    go_enter Tryz.func92, Tryz.ntmps92
    have HX := Lib.hid (show (18446744073709551615 : Int) = bits .xor .u64 IntKind.u64.max 0 by decide)
    go_wp2
    all_goals first
      | (go_ret2; exact ⟨rfl, below_alloc1 _ _⟩)
      | exact absurd HX.out (by assumption)
  · obtain ⟨e1, e2⟩ := hf.2.2 (by omega)
    rw [e1, e2]
    generalize wd0 z = a at *
    clear hf hr e1 e2
    go_enter Tryz.func92, Tryz.ntmps92
    go_wp2
    go_ret2
    exact ⟨rfl, below_alloc1 _ _⟩
/-- the other bits -/
theorem xor_max {x : Int} (h0 : 0 ≤ x) (h1 : x < 18446744073709551616) : bits .xor .u64 IntKind.u64.max x = 18446744073709551615 - x := by
  obtain ⟨n, rfl⟩ := Int.eq_ofNat_of_zero_le h0
  have hn : n < 2 ^ 64 := by omega
  unfold bits
  show IntKind.u64.wrap (((BitVec.ofInt 64 (18446744073709551615 : Int)) ^^^ (BitVec.ofInt 64 (n : Int))).toNat : Int) = _
  have e1 : BitVec.ofInt 64 (18446744073709551615 : Int) = BitVec.allOnes 64 := by decide
  rw [e1, BitVec.ofInt_natCast, BitVec.allOnes_xor, BitVec.toNat_not, BitVec.toNat_ofNat, Nat.mod_eq_of_lt hn]
  have e2 : ((2 ^ 64 - 1 - n : Nat) : Int) = 18446744073709551615 - (n : Int) := by omega
  rw [e2]
  exact IntWalk.u64_in _ (by omega)
end Go.Proofs.YtodiipkedhfncaaGreatDoor.LngW
