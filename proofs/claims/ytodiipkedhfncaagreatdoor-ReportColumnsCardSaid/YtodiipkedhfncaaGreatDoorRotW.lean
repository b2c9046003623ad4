/- wide.Root, walked: bit by bit (printed by mkrot.py). -/
import Derived.Test.YtodiipkedhfncaaGreatDoorWidX
import Derived.Test.YtodiipkedhfncaaGreatDoorSeqM
import Derived.Test.YtodiipkedhfncaaGreatDoorHzW
namespace Go.Proofs.YtodiipkedhfncaaGreatDoor.RotW
set_option linter.unusedVariables false
set_option linter.unusedSimpArgs false
open Go.RowKit Base BigM BigZ WideM RptM RptO RptC WidX SeqM HzW

theorem gi {L : List Oper} {i : Nat} {o : Oper} (h : L[i]? = some o) : L.toArray[i]? = some o := by rw [List.getElem?_toArray]; exact h
/-- the bits of a sum, where no bit is in both -/
theorem or_bits {x y : Nat} (h : x ||| y = x + y) (hs : x + y < 18446744073709551616) : bits .or .u64 (x : Int) (y : Int) = ((x + y : Nat) : Int) := by
  have hx : x < 18446744073709551616 := by omega
  have hy : y < 18446744073709551616 := by omega
  unfold bits
  show IntKind.u64.wrap (((BitVec.ofInt 64 (x : Int)) ||| (BitVec.ofInt 64 (y : Int))).toNat : Int) = _
  rw [BitVec.ofInt_natCast, BitVec.ofInt_natCast, BitVec.toNat_or, BitVec.toNat_ofNat, BitVec.toNat_ofNat, Nat.mod_eq_of_lt hx, Nat.mod_eq_of_lt hy, h]
  exact IntWalk.u64_in _ (by omega)
theorem pow_cast (n : Nat) : (2 : Int) ^ n = ((2 ^ n : Nat) : Int) := by simp
/-- the root's loop: bit k - 1 is the next one -/
def RootRel (a : Nat) (W w : World) (r k : Value) (wr : World) : Prop := ∃ (n x : Nat), n ≤ 64 ∧ k = .int .i64 ((n : Int) - 1) ∧ r = .int .u64 (x : Int) ∧ Rt n x ∧ rootK a n x = rootF a ∧ Below W.heap.size W wr ∧ Below w.heap.size w wr
set_option maxHeartbeats 2000000 in
theorem Root_any (a : Int) (h0 : 0 ≤ a) (h1 : a < 340282366920938463463374607431768211456) (w : World) :
    Calls Tryz.prog 38 #[WV a] w fun e w' => e = .returned (.int .u64 (rootF a.toNat : Int)) ∧ Below w.heap.size w w' := by
  have HA := Lib.hid (And.intro h0 h1)
  obtain ⟨hi, eh⟩ : ∃ hi, hiW a = hi := ⟨_, rfl⟩
  obtain ⟨lo, el⟩ : ∃ lo, loW a = lo := ⟨_, rfl⟩
  have HW := Lib.hid (show WV a = .agg #[.int .u64 hi, .int .u64 lo] by unfold WV; rw [eh, el])
  rw [HW.out]
  clear eh el
  obtain ⟨W, eW⟩ : ∃ W, w.alloc (.cells #[.int .u64 hi, .int .u64 lo] 33) = W := ⟨_, rfl⟩
  have H0 := Lib.hid (show RootRel a.toNat W w (.int .u64 0) (.int .i64 63) W from ⟨64, 0, Nat.le_refl _, rfl, rfl, rt_start, rfl, Below.refl _ _, by rw [← eW]; exact below_alloc1 _ _⟩)
  have HC := Lib.hid (show W.cell? ⟨w.heap.size, 0, none⟩ = some (.int .u64 hi) ∧ W.cell? ⟨w.heap.size, 1, none⟩ = some (.int .u64 lo) by subst eW; constructor <;> go_simp)
  go_enter Tryz.func38, Tryz.ntmps38
  go_wp2
  clear eW h0 h1
  go_loopw [3, 4] (fun r k wr => RootRel a.toNat W w r k wr) (fun _ k _ => (intOf k + 1).toNat)
  case atStart => exact H0.out
  case round =>
    obtain ⟨n, x, hn, rfl, rfl, hr, hk, hb, hb0⟩ := hrel
    cases n with
    | zero =>
      have F := Lib.hid (show x = rootF a.toNat from hk)
      go_wp2
      go_ret
      exact ⟨ret_int (by rw [F.out]), hb0⟩
    | succ n =>
      have HR := Lib.hid hr
      have HK := Lib.hid hk
      have C0 := Lib.hid (keepA hb HC.out.1)
      have C1 := Lib.hid (keepA hb HC.out.2)
      have HB0 := Lib.hid hb0
      have HB := Lib.hid hb
      obtain ⟨y, ey⟩ : ∃ y, x + 2 ^ n = y := ⟨_, rfl⟩
      have hy : y < 18446744073709551616 := by rw [← ey]; exact rt_room (by omega) hr
      have hp : IntKind.u64.wrap (2 ^ n) = ((2 ^ n : Nat) : Int) := by rw [pow_cast]; generalize (2 : Nat) ^ n = p at ey; exact IntWalk.u64_in _ (by omega)
      have HOR := Lib.hid (show bits .or .u64 (x : Int) (IntKind.u64.wrap (2 ^ n)) = (y : Int) by rw [hp, or_bits (rt_or hr) (by omega), ey])
      have HY := Lib.hid ey
      have HMUL := Lib.hid (fun W' => Mul_any (y : Int) (y : Int) ⟨by omega, by omega⟩ ⟨by omega, by omega⟩ W')
      have hyy : (y : Int) * y < 340282366920938463463374607431768211456 := by
        have h9 : y * y ≤ 18446744073709551615 * 18446744073709551615 := Nat.mul_le_mul (by omega) (by omega)
        have : ((y * y : Nat) : Int) = (y : Int) * y := by rw [Int.natCast_mul]
        omega
      have hyy0 : 0 ≤ (y : Int) * y := Int.mul_nonneg (by omega) (by omega)
      have HCMP := Lib.hid (fun W' => Cmp_any ((y : Int) * y) a ⟨hyy0, hyy⟩ HA.out W')
      have HD := Lib.hid (show (y * y ≤ a.toNat ↔ (y : Int) * y ≤ a) by
        have : ((y * y : Nat) : Int) = (y : Int) * y := by rw [Int.natCast_mul]
        have := HA.out.1
        omega)
      have HYS := Lib.hid hy
      clear H0 hr hk hb0 hb hp hyy hyy0 ey
      go_wp2
      rw [HOR.out]
      refine regionZ 5 (fun w' => w'.cell? ⟨w.heap.size, 0, none⟩ = some (.int .u64 hi) ∧ w'.cell? ⟨w.heap.size, 1, none⟩ = some (.int .u64 lo)) (by kernel_rfl) (⟨C0.out, C1.out⟩) (fun hH => ?_)
      refine takeZ 0 (v := ?_) (gi rfl) (by kernel_rfl) (fun _ _ _ h => h) hH (.inl ⟨rfl, fun w hW => ?_⟩) ?_
      rotate_left
      · (go_simp; try with_reducible rfl)
      try simp only [Act.put, List.setIfInBounds_toArray, List.set_cons_zero, List.set_cons_succ]
      refine takeZ 1 (v := ?_) (gi rfl) (by kernel_rfl) (fun _ _ _ h => h) hH (.inl ⟨rfl, fun w hW => ?_⟩) ?_
      rotate_left
      · (go_simp; try with_reducible rfl)
      try simp only [Act.put, List.setIfInBounds_toArray, List.set_cons_zero, List.set_cons_succ]
      refine takeZ 3 (v := ?_) (gi rfl) (by kernel_rfl) (fun _ _ _ h => h) hH (.inl ⟨rfl, fun w hW => ?_⟩) ?_
      rotate_left
      · (obtain ⟨hW1, hW2⟩ := hW; go_simp; try with_reducible rfl)
      try simp only [Act.put, List.setIfInBounds_toArray, List.set_cons_zero, List.set_cons_succ]
      refine oneZ 2 (by kernel_rfl) (gi rfl) (fun K hK => ?_)
      try simp only [Act.put, List.setIfInBounds_toArray, List.set_cons_zero, List.set_cons_succ]
      go_simp
      refine (HMUL.out _).mono ?_
      rintro e w1 ⟨rfl, hb1⟩
      have HB1 := Lib.hid hb1
      clear hb1
      refine hK.out _ _ (fun _ => ⟨keepA HB1.out C0.out, keepA HB1.out C1.out⟩) (fun hH => ?_)
      replace hH := hH (by decide)
      clear hK K
      try simp only [Act.put, List.setIfInBounds_toArray, List.set_cons_zero, List.set_cons_succ]
      rw [← HW.out]
      refine oneZ 4 (by kernel_rfl) (gi rfl) (fun K hK => ?_)
      try simp only [Act.put, List.setIfInBounds_toArray, List.set_cons_zero, List.set_cons_succ]
      go_simp
      refine (HCMP.out _).mono ?_
      rintro e w2 ⟨rfl, hb2⟩
      have HB2 := Lib.hid hb2
      clear hb2
      refine hK.out _ _ (fun _ => ⟨keepA HB2.out (keepA HB1.out C0.out), keepA HB2.out (keepA HB1.out C1.out)⟩) (fun hH => ?_)
      replace hH := hH (by decide)
      clear hK K
      try simp only [Act.put, List.setIfInBounds_toArray, List.set_cons_zero, List.set_cons_succ]
      refine yieldZ 5 (v := ?_) (by kernel_rfl) (gi rfl) hH (.inl ⟨rfl, fun w hW => ?_⟩) ?_
      rotate_left
      · (go_simp; try with_reducible rfl)
      try simp only [Act.put, List.setIfInBounds_toArray, List.set_cons_zero, List.set_cons_succ]
      refine doneZ (by kernel_rfl) ?_ _
      by_cases hle : (y : Int) * y ≤ a
      · have ho : ord ((y : Int) * y) a ≤ 0 := by unfold ord; split <;> (try split) <;> omega
        have hS : rootS a.toNat x n = y := by unfold rootS; rw [HY.out, if_pos (HD.out.2 hle)]
        have HN := Lib.hid (show Rt n y ∧ rootK a.toNat n y = rootF a.toNat from ⟨by rw [← HY.out]; exact rt_up (by omega) HR.out, by have := HK.out; rw [rootK, hS] at this; exact this⟩)
        generalize ord ((y : Int) * y) a = o at *
        clear hle hS hH
        rw [HW.out]
        go_wp2
        exact ⟨⟨n, y, by omega, by go_num, rfl, HN.out.1, HN.out.2, bt HB2.out (bt HB1.out (HB.out.drew)), bt HB2.out (bt HB1.out (HB0.out.drew))⟩, by simp [intOf]⟩
      · have ho : 0 < ord ((y : Int) * y) a := by unfold ord; split <;> (try split) <;> omega
        have hS : rootS a.toNat x n = x := by unfold rootS; rw [HY.out, if_neg (fun h => hle (HD.out.1 h))]
        have HN := Lib.hid (show Rt n x ∧ rootK a.toNat n x = rootF a.toNat from ⟨rt_down HR.out, by have := HK.out; rw [rootK, hS] at this; exact this⟩)
        generalize ord ((y : Int) * y) a = o at *
        clear hle hS hH
        rw [HW.out]
        go_wp2
        exact ⟨⟨n, x, by omega, by go_num, rfl, HN.out.1, HN.out.2, bt HB2.out (bt HB1.out (HB.out.drew)), bt HB2.out (bt HB1.out (HB0.out.drew))⟩, by simp [intOf]⟩
end Go.Proofs.YtodiipkedhfncaaGreatDoor.RotW
