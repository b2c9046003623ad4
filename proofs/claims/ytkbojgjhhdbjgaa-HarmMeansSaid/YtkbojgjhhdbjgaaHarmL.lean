/- The walks of the law's lives, and of the laws HarmTells and HarmFracs. -/
import Derived.Test.YtkbojgjhhdbjgaaHarmU
namespace Go.Proofs.Ytkbojgjhhdbjgaa.HarmL
set_option linter.unusedVariables false
open Go.RowKit Base BigM BigW BigZ GcdW GcdM RatM RatW RefRat HarmM HarmW

theorem frac4 : (fracN (held 4).toNat).1 = 25 ∧ (fracN (held 4).toNat).2.1 = 12 ∧ (fracN (held 4).toNat).2.2 = 0 := by decide +kernel
theorem tab2 : tab ((held 2).toNat + 1) = [0, 0, 1073741824] := by decide +kernel
theorem low3 : low 3 = 1968526677 ∧ low 3 + brok 3 = 1968526678 := by decide +kernel
theorem norm2 : norm 2 = 1073741824 := by decide +kernel
set_option maxHeartbeats 4000000 in
theorem lives_any (w : World) :
    Calls Try.prog 18 #[] w fun e w' => e = .returned (.bool true) ∧ Below w.heap.size w w' := by
  go_enter Try.func18, Try.ntmps18
  go_wp2_with fail
  refine (Frac_any 4 _).mono ?_
  rintro e w1 ⟨rfl, hb1⟩
  rw [frac4.1, frac4.2.1, frac4.2.2]
  go_wp2_with fail
  refine (Table_any 2 _).mono ?_
  rintro e w2 ⟨⟨v, rfl, hv⟩, hb2⟩
  rw [tab2] at hv
  obtain ⟨A, cap, rfl, hc1, hc2, hrd⟩ := hv
  have hB := hb1.trans (((below_alloc1 w1 (.cells #[.int .i64 25, .int .i64 12] 38)).trans (hb2.mono (below_alloc1 _ _).size)).mono hb1.size)
  obtain ⟨k1, k2, k3, k4, k5⟩ := keepR hb2 (r := w1.heap.size) (by go_simp; rfl) (by go_simp; rfl) (by go_simp) (by go_simp)
  obtain ⟨ad, d, rfl, hlt, hcell, hd⟩ := rd_at hrd (show 2 < 3 by omega)
  obtain rfl : d = 1073741824 := by rw [← hd.out]; decide
  have hcell2 : w2.cell? ⟨ad.block, ad.off + 2, none⟩ = some (.int .i64 1073741824) := hcell
  clear hrd hb1 hb2
  go_wp2_with fail
  refine (Low_any 3 _).mono ?_
  rintro e w' ⟨rfl, rfl⟩
  rw [low3.1]
  go_wp2_with fail
  refine (High_any 3 _).mono ?_
  rintro e w' ⟨rfl, rfl⟩
  rw [low3.2]
  go_wp2_with fail
  refine (Norm_any 2 _).mono ?_
  rintro e w' ⟨rfl, k, rfl⟩
  rw [norm2]
  go_wp2
  go_ret
  exact ⟨rfl, below_drewN hB _⟩

theorem beq_self (x : Int) : (x == x) = true := by simp
theorem sameB_self (l : List Int) : sameB l l = true := decide_eq_true rfl
set_option maxHeartbeats 4000000 in
theorem walkTells (n : Int) (w : World) (_ : -9223372036854775808 ≤ n ∧ n ≤ 9223372036854775807) :
    Calls Try.prog 3 #[.int .i64 n] w fun e w' => e = .returned (.bool true) ∧ Below w.heap.size w w' := by
  have q1 := beq_self (low n)
  have q2 := beq_self (low n + brok n)
  have q3 := beq_self (eLo n)
  have q4 := beq_self (eHi n)
  have q5 := beq_self (norm n)
  go_enter Try.func3, Try.ntmps3
  go_wp2_with (first
    | (go_at_call 7; refine (Ends_any _ _).mono ?_; rintro e w' ⟨rfl, k1, rfl⟩)
    | (go_at_call 8; refine (REnds_any _ _).mono ?_; rintro e w' ⟨rfl, k2, rfl⟩)
    | (go_at_call 9; refine (Low_any _ _).mono ?_; rintro e w' ⟨rfl, rfl⟩)
    | (go_at_call 10; refine (RLow_any _ _).mono ?_; rintro e w' ⟨rfl, rfl⟩)
    | (go_at_call 11; refine (High_any _ _).mono ?_; rintro e w' ⟨rfl, rfl⟩)
    | (go_at_call 12; refine (RHigh_any _ _).mono ?_; rintro e w' ⟨rfl, rfl⟩)
    | (go_at_call 13; refine (Norm_any _ _).mono ?_; rintro e w' ⟨rfl, k3, rfl⟩)
    | (go_at_call 14; refine (RNorm_any _ _).mono ?_; rintro e w' ⟨rfl, k4, rfl⟩))
  refine (Table_any n _).mono ?_
  rintro e w1 ⟨⟨v1, rfl, hv1⟩, hb1⟩
  have hb1 : Below w.heap.size w w1 := (below_drewN (Below.refl w.heap.size w) _).trans hb1
  have HV1 := Lib.hid hv1
  clear hv1
  go_wp2_with fail
  refine (RTable_any n _).mono ?_
  rintro e w2 ⟨⟨v2, rfl, hv2⟩, hb2⟩
  have HV2 := Lib.hid hv2
  clear hv2
  go_wp2_with fail
  refine (Same_any _ _ (tab ((held n).toNat + 1)) (tab ((held n).toNat + 1)) _ _ _ _ _ (HV1.out.below hb2 (Nat.le_refl _)) HV2.out (by rw [tab_len]; have := held_bd n; omega)).mono ?_
  rintro e w3 ⟨rfl, q, rfl⟩
  rw [sameB_self]
  go_wp2_with fail
  refine (lives_any _).mono ?_
  rintro e w4 ⟨rfl, hb4⟩
  go_wp2
  go_ret
  have hb12 := hb1.trans (hb2.mono hb1.size)
  exact ⟨rfl, (below_drewN hb12 q).trans (hb4.mono hb12.size)⟩
end Go.Proofs.Ytkbojgjhhdbjgaa.HarmL
