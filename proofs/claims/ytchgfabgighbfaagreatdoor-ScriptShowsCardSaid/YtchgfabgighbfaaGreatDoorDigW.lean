/- The walk of copseref03.Digits: the decimal numeral. -/
import Derived.Test.YtchgfabgighbfaaGreatDoorRows
import Derived.Test.YtchgfabgighbfaaGreatDoorBase
import Derived.Test.YtchgfabgighbfaaGreatDoorTxtM
import Derived.WalkSpells
namespace Go.Proofs.YtchgfabgighbfaaGreatDoor.DigW
set_option linter.unusedVariables false
open Go.RowKit Go.Lib Base TxtM

/-- the digits of a number, none for 0 -/
def decX (u : Nat) : List UInt8 := if u = 0 then [] else decDigits u
theorem decX_step {u : Nat} (h : u ≠ 0) : decX u = decX (u / 10) ++ [UInt8.ofNat (48 + u % 10)] := by
  unfold decX
  rw [if_neg h]
  by_cases h1 : u < 10
  · rw [if_pos (by omega), decDigits, dif_pos h1, Nat.mod_eq_of_lt h1]; rfl
  · rw [if_neg (by omega), decDigits, dif_neg h1]
theorem decX_len (u : Nat) (h : u < 18446744073709551616) : (decX u).length ≤ 20 := by
  unfold decX
  split
  · simp
  · rw [decDigits_length]; exact nDigits_le20 u h
theorem decX_ne {u : Nat} (h : u ≠ 0) : decX u ≠ [] := by unfold decX; rw [if_neg h]; exact dec_ne u

theorem dig_piece : ∀ k : Fin 10, (#[48, 49, 50, 51, 52, 53, 54, 55, 56, 57] : Array UInt8).extract k.val (k.val + 1) = #[UInt8.ofNat (48 + k.val)] := by decide +kernel
theorem dig_cat (k : Nat) (h : k < 10) (t : List UInt8) : Value.string ((⟨#[48, 49, 50, 51, 52, 53, 54, 55, 56, 57]⟩ : ByteArray).extract k (k + 1) ++ ⟨t.toArray⟩) = .string ⟨(UInt8.ofNat (48 + k) :: t).toArray⟩ := by
  congr 1
  apply ByteArray.ext
  rw [ByteArray.data_append, ByteArray.data_extract, dig_piece ⟨k, h⟩]
  simp
theorem itoa_zero : itoa ((0 : Nat) : Int) = [48] := by rw [itoa_nonneg, decDigits, dif_pos (by omega)]; rfl
def DigRel (N : Nat) (neg : Bool) (s m : Value) : Prop := ∃ (u : Nat) (t : List UInt8), m = .int .i64 (if neg = true then -(u : Int) else (u : Int)) ∧ s = .string ⟨t.toArray⟩ ∧ u ≤ N ∧ decX u ++ t = decX N
set_option maxHeartbeats 1000000 in
theorem Digits_pos (N : Nat) (w : World) (h1 : N ≤ 9223372036854775807) :
    Calls Tryz.prog 43 #[.int .i64 (N : Int)] w fun e w' => e = .returned (.string ⟨(itoa (N : Int)).toArray⟩) ∧ w = w' := by
  have H0 := Lib.hid (show DigRel N false (.string ⟨#[]⟩) (.int .i64 (N : Int)) from ⟨N, [], rfl, rfl, Nat.le_refl _, by simp⟩)
  go_enter Tryz.func43, Tryz.ntmps43
  go_wp2
  go_loop [3, 4] (fun s m => DigRel N false s m) (fun _ m => (intOf m).natAbs)
  case atStart => exact H0.out
  case round =>
    obtain ⟨u, t, hm, rfl, hu, ht⟩ := hrel
    obtain rfl := hm
    have hl : t.length ≤ 20 := by
      have := decX_len N (by omega)
      rw [← ht, List.length_append] at this
      omega
    have HT := Lib.hid ht
    clear ht
    by_cases hz : u = 0
    · subst hz
      have hT : decX N = t := by rw [← HT.out]; rfl
      have HTT := Lib.hid hT
      have hne : N ≠ 0 → t ≠ [] := fun h => by rw [← hT]; exact decX_ne h
      have HNE := Lib.hid hne
      clear hT hne
      cases t with
      | nil =>
        go_wp2
        go_ret
        have hN : N = 0 := by
          rcases Nat.eq_zero_or_pos N with h | h
          · exact h
          · exact absurd rfl (HNE.out (by omega))
        subst hN
        exact ⟨by rw [itoa_zero]; rfl, rfl⟩
      | cons c r =>
        go_wp2
        go_ret
        refine ⟨?_, rfl⟩
        have hN : N ≠ 0 := fun h => by
          have := HTT.out
          rw [h] at this
          exact absurd this (by simp [decX])
        rw [← HTT.out, itoa_nonneg]
        unfold decX
        rw [if_neg hN]
        rfl
    · have hzb : ((u : Int) != 0) = true := by simpa using hz
      obtain ⟨k, hk⟩ : ∃ k, u % 10 = k := ⟨_, rfl⟩
      obtain ⟨v, hv⟩ : ∃ v, u / 10 = v := ⟨_, rfl⟩
      have hkI : (u : Int) % 10 = (k : Int) := by omega
      have hvI : (u : Int) / 10 = (v : Int) := by omega
      have hk10 : k < 10 := by omega
      have hvu : v < u := by omega
      have HK := Lib.hid hk
      have HV := Lib.hid hv
      clear hk hv
      simp only [Bool.false_eq_true, if_false]
      go_wp2
      refine ⟨⟨v, UInt8.ofNat (48 + k) :: t, rfl, dig_cat k hk10 t, by omega, ?_⟩, by simp [intOf]; omega⟩
      have := HT.out
      rw [decX_step hz, HV.out, HK.out, List.append_assoc] at this
      exact this
theorem tdiv_neg10 (u v : Nat) (h : u / 10 = v) : (-(u : Int)).tdiv 10 = -(v : Int) := by
  rw [Int.neg_tdiv, Int.tdiv_eq_ediv_of_nonneg (by omega)]; omega
theorem tmod_neg10 (u v : Nat) (h : u % 10 = v) : (-(u : Int)).tmod 10 = -(v : Int) := by
  rw [Int.neg_tmod, Int.tmod_eq_emod_of_nonneg (by omega)]; omega
set_option maxHeartbeats 1000000 in
theorem Digits_neg (N : Nat) (w : World) (h0 : 1 ≤ N) (h1 : N ≤ 9223372036854775808) :
    Calls Tryz.prog 43 #[.int .i64 (-(N : Int))] w fun e w' => e = .returned (.string ⟨(itoa (-(N : Int))).toArray⟩) ∧ w = w' := by
  have H0 := Lib.hid (show DigRel N true (.string ⟨#[]⟩) (.int .i64 (-(N : Int))) from ⟨N, [], rfl, rfl, Nat.le_refl _, by simp⟩)
  go_enter Tryz.func43, Tryz.ntmps43
  go_wp2
  go_loop [3, 4] (fun s m => DigRel N true s m) (fun _ m => (intOf m).natAbs)
  case atStart => exact H0.out
  case round =>
    obtain ⟨u, t, hm, rfl, hu, ht⟩ := hrel
    obtain rfl := hm
    have hl : t.length ≤ 20 := by
      have := decX_len N (by omega)
      rw [← ht, List.length_append] at this
      omega
    have HT := Lib.hid ht
    clear ht
    by_cases hz : u = 0
    · subst hz
      have hT : decX N = t := by rw [← HT.out]; rfl
      have HTT := Lib.hid hT
      clear hT
      have n1 : ¬ 9223372036854775807 < 1 + t.length := by omega
      have n2 : ¬ 9223372036854775807 < 1 + (⟨t.toArray⟩ : ByteArray).size := by show ¬ 9223372036854775807 < 1 + t.toArray.size; rw [List.size_toArray]; omega
      simp only [if_true]
      go_wp2
      go_ret
      refine ⟨?_, rfl⟩
      rw [itoa_neg N h0, show decDigits N = t by rw [← HTT.out]; unfold decX; rw [if_neg (by omega)]]
      congr 2
    · have hzb : ((-(u : Int)) != 0) = true := by simp; omega
      obtain ⟨k, hk⟩ : ∃ k, u % 10 = k := ⟨_, rfl⟩
      obtain ⟨v, hv⟩ : ∃ v, u / 10 = v := ⟨_, rfl⟩
      have hkI := tmod_neg10 u k hk
      have hvI := tdiv_neg10 u v hv
      have hk10 : k < 10 := by omega
      have hvu : v < u := by omega
      have hun : ¬ 0 ≤ -(u : Int) := by omega
      have HK := Lib.hid hk
      have HV := Lib.hid hv
      clear hk hv
      simp only [if_true]
      have hfin : DigRel N true (.string ((⟨#[48, 49, 50, 51, 52, 53, 54, 55, 56, 57]⟩ : ByteArray).extract k (k + 1) ++ ⟨t.toArray⟩)) (.int .i64 (-(v : Int))) ∧ v < u := by
        refine ⟨⟨v, UInt8.ofNat (48 + k) :: t, rfl, dig_cat k hk10 t, by omega, ?_⟩, hvu⟩
        have := HT.out
        rw [decX_step (by omega), HV.out, HK.out, List.append_assoc] at this
        exact this
      have HF := Lib.hid hfin
      clear hfin
      by_cases hk0 : k = 0
      · subst hk0
        go_wp2
        exact ⟨HF.out.1, by simp [intOf]; exact HF.out.2⟩
      · go_wp2
        exact ⟨HF.out.1, by simp [intOf]; exact HF.out.2⟩
/-- copseref03.Digits is the decimal numeral -/
theorem Digits_any (n : Int) (w : World) (h1 : -9223372036854775808 ≤ n) (h2 : n ≤ 9223372036854775807) :
    Calls Tryz.prog 43 #[.int .i64 n] w fun e w' => e = .returned (.string ⟨(itoa n).toArray⟩) ∧ w = w' := by
  by_cases hn : n < 0
  · obtain ⟨N, rfl⟩ : ∃ N : Nat, n = -(N : Int) := ⟨n.natAbs, by omega⟩
    exact Digits_neg N w (by omega) (by omega)
  · obtain ⟨N, rfl⟩ := Int.eq_ofNat_of_zero_le (show 0 ≤ n by omega)
    exact Digits_pos N w (by omega)
end Go.Proofs.YtchgfabgighbfaaGreatDoor.DigW
