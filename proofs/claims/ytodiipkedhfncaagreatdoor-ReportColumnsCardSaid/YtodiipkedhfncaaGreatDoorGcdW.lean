/- The walks of copseref01.Sub and Gcd, and of num.size and num.Gcd. -/
import Derived.Test.YtodiipkedhfncaaGreatDoorBigY
import Derived.Test.YtodiipkedhfncaaGreatDoorGcdM
namespace Go.Proofs.YtodiipkedhfncaaGreatDoor.GcdW
set_option linter.unusedVariables false
open Go.RowKit Base BigM BigW BigZ GcdM

set_option maxHeartbeats 1000000 in
theorem Sub_any (a b : Int) (w : World) (a0 : -9223372036854775808 ≤ a) (a1 : a ≤ 9223372036854775807) (b0 : -9223372036854775808 ≤ b) (b1 : b ≤ 9223372036854775807) :
    Calls Tryz.prog 86 #[.int .i64 a, .int .i64 b] w fun e w' => e = .returned (.tuple #[.int .i64 (fitsV (a - b)), .int .i64 (fitsE (a - b))]) ∧ Below w.heap.size w w' := by
  go_enter Tryz.func86, Tryz.ntmps86
  go_wp2_with fail
  refine (Int_any a _ a0 a1).mono ?_
  rintro e w1 ⟨⟨v1, rfl, hv1⟩, hb1⟩
  have HV1 := Lib.hid hv1
  clear hv1
  go_wp2_with fail
  refine (Int_any b _ b0 b1).mono ?_
  rintro e w2 ⟨⟨v2, rfl, hv2⟩, hb2⟩
  have HV2 := Lib.hid hv2
  clear hv2
  go_wp2_with fail
  refine (Turn_any _ b 4 _ HV2.out).mono ?_
  rintro e w3 ⟨⟨v3, rfl, hv3⟩, hb3⟩
  have HV3 := Lib.hid hv3
  clear hv3
  have hb23 := hb2.trans (hb3.mono hb2.size)
  go_wp2_with fail
  refine (Both_any _ _ a (-b) 4 4 _ ((HV1.out.below hb23 (Nat.le_refl _)).more hb23.size (Nat.le_refl _)) HV3.out (by omega) (by omega)).mono ?_
  rintro e w4 ⟨⟨v4, rfl, hv4⟩, hb4⟩
  have HV4 := Lib.hid hv4
  clear hv4
  go_wp2_with fail
  refine (Fits_any _ (a + -b) _ _ HV4.out (by omega)).mono ?_
  rintro e w5 ⟨rfl, hb5⟩
  go_wp2
  go_ret2
  refine ⟨ret_int2 (by rw [Int.sub_eq_add_neg]) (by rw [Int.sub_eq_add_neg]), ?_⟩
  exact hb1.trans ((hb23.trans ((hb4.trans (hb5.mono hb4.size)).mono hb23.size)).mono hb1.size)

def GcdRel (a b : Int) (x y : Value) : Prop := ∃ p q : Int, x = .int .i64 p ∧ y = .int .i64 q ∧ g p q = g a b ∧ (-9223372036854775808 ≤ p ∧ p ≤ 9223372036854775807) ∧ (-9223372036854775808 ≤ q ∧ q ≤ 9223372036854775807)

set_option maxHeartbeats 1000000 in
theorem RGcd_any (a b : Int) (w : World) (a0 : -9223372036854775808 ≤ a) (a1 : a ≤ 9223372036854775807) (b0 : -9223372036854775808 ≤ b) (b1 : b ≤ 9223372036854775807) :
    Calls Tryz.prog 70 #[.int .i64 a, .int .i64 b] w fun e w' => e = .returned (.tuple #[.int .i64 (gcdV a b), .int .i64 (gcdE a b)]) ∧ Below w.heap.size w w' := by
  have H0 := Lib.hid (show GcdRel a b (.int .i64 a) (.int .i64 b) from ⟨a, b, rfl, rfl, rfl, ⟨a0, a1⟩, ⟨b0, b1⟩⟩)
  go_enter Tryz.func70, Tryz.ntmps70
  go_wp2
  go_loopw [6, 7] (fun x y wr => GcdRel a b x y ∧ Below w.heap.size w wr) (fun _ y _ => (intOf y).natAbs)
  case atStart => exact ⟨H0.out, Below.refl _ _⟩
  case round =>
    obtain ⟨⟨p, q, rfl, rfl, hg, hp, hq⟩, hbel⟩ := hrel
    have HG := Lib.hid hg
    clear hg
    by_cases hz : q = 0
    · subst hz
      have hgp := HG.out
      rw [g_zero] at hgp
      by_cases hneg : p < 0
      · go_wp2_with fail
        refine (Sub_any 0 p _ (by omega) (by omega) hp.1 hp.2).mono ?_
        rintro e w1 ⟨rfl, hb1⟩
        have HGP := Lib.hid hgp
        clear hgp
        go_wp2
        go_ret2
        refine ⟨ret_int2 ?_ ?_, hbel.trans (hb1.mono hbel.size)⟩
        · rw [gcdV, ← HGP.out]; congr 1; omega
        · rw [gcdE, ← HGP.out]; congr 1; omega
      · have HGP := Lib.hid hgp
        clear hgp
        have HE := Lib.hid (gcd_in (a := a) (b := b) (by rw [← HGP.out]; omega))
        go_wp2
        go_ret2
        refine ⟨ret_int2 ?_ ?_, hbel⟩
        · rw [HE.out.1, ← HGP.out]; omega
        · rw [HE.out.2]
    · have hz2 : (q == 0) = false := by simpa using hz
      by_cases hone : q = -1
      · subst hone
        have HE := Lib.hid (gcd_in (a := a) (b := b) (by rw [← HG.out, g_one]; omega))
        have HG1 := Lib.hid (show g a b = 1 by rw [← HG.out, g_one])
        go_wp2
        go_ret2
        exact ⟨ret_int2 (by rw [HE.out.1, HG1.out]) HE.out.2.symm, hbel⟩
      · have hone2 : (q == -1) = false := by simpa using hone
        have hbd := tmod_bd p q hz hq
        go_wp2
        go_quiet (fail)
        go_wp2
        exact ⟨⟨⟨q, _, rfl, rfl, by rw [← HG.out, g_step p q], hq, hbd.1, hbd.2.1⟩, below_drewN hbel _⟩, hbd.2.2⟩
end Go.Proofs.YtodiipkedhfncaaGreatDoor.GcdW
