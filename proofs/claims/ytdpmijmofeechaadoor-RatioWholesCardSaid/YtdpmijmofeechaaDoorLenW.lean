/- bits.Len64 and LeadingZeros64 of a number below 2^32; bits.Div64 where the divisor is below 2^31. -/
import Derived.Test.YtdpmijmofeechaaDoorBase
import Derived.Test.YtdpmijmofeechaaDoorProg
namespace Go.Proofs.YtdpmijmofeechaaDoor.LenW
set_option linter.unusedVariables false
open Go.RowKit Base
abbrev lenTab : ByteArray := { data := #[0, 1, 2, 2, 3, 3, 3, 3, 4, 4, 4, 4, 4, 4, 4, 4, 5, 5, 5, 5, 5, 5, 5, 5, 5, 5, 5, 5, 5, 5, 5, 5, 6, 6, 6, 6, 6, 6, 6, 6, 6, 6, 6, 6, 6, 6, 6, 6, 6, 6, 6, 6, 6, 6, 6, 6, 6, 6, 6, 6, 6, 6, 6, 6, 7, 7, 7, 7, 7, 7, 7, 7, 7, 7, 7, 7, 7, 7, 7, 7, 7, 7, 7, 7, 7, 7, 7, 7, 7, 7, 7, 7, 7, 7, 7, 7, 7, 7, 7, 7, 7, 7, 7, 7, 7, 7, 7, 7, 7, 7, 7, 7, 7, 7, 7, 7, 7, 7, 7, 7, 7, 7, 7, 7, 7, 7, 7, 7, 8, 8, 8, 8, 8, 8, 8, 8, 8, 8, 8, 8, 8, 8, 8, 8, 8, 8, 8, 8, 8, 8, 8, 8, 8, 8, 8, 8, 8, 8, 8, 8, 8, 8, 8, 8, 8, 8, 8, 8, 8, 8, 8, 8, 8, 8, 8, 8, 8, 8, 8, 8, 8, 8, 8, 8, 8, 8, 8, 8, 8, 8, 8, 8, 8, 8, 8, 8, 8, 8, 8, 8, 8, 8, 8, 8, 8, 8, 8, 8, 8, 8, 8, 8, 8, 8, 8, 8, 8, 8, 8, 8, 8, 8, 8, 8, 8, 8, 8, 8, 8, 8, 8, 8, 8, 8, 8, 8, 8, 8, 8, 8, 8, 8, 8, 8, 8, 8, 8, 8, 8, 8, 8, 8, 8, 8, 8, 8] }
set_option maxRecDepth 100000 in
/-- what the table of lengths says of a byte that is not 0 -/
theorem tab_at (i : Nat) (h : i < 256) (h0 : 1 ≤ i) : ∃ m : Nat, (lenTab[i]'h).toNat = m ∧ 1 ≤ m ∧ m ≤ 8 ∧ 2 ^ (m - 1) ≤ i ∧ i < 2 ^ m := by
  have H : ∀ j : Fin 256, 1 ≤ j.val → 1 ≤ (lenTab[j.val]'j.isLt).toNat ∧ (lenTab[j.val]'j.isLt).toNat ≤ 8 ∧ 2 ^ ((lenTab[j.val]'j.isLt).toNat - 1) ≤ j.val ∧ j.val < 2 ^ (lenTab[j.val]'j.isLt).toNat := by decide +kernel
  exact ⟨_, rfl, H ⟨i, h⟩ h0⟩
theorem len_up (y : Int) (s m : Nat) (D : Int) (hD : D = 2 ^ s) (i : Nat) (hi : (i : Int) = y / D) (hy : 0 ≤ y) (h1 : 1 ≤ m) (h2 : 2 ^ (m - 1) ≤ i) (h3 : i < 2 ^ m) :
    (2 : Int) ^ (s + m - 1) ≤ y ∧ y < (2 : Int) ^ (s + m) := by
  have hDp : 0 < D := by rw [hD]; exact Int.pow_pos (by decide)
  have a := Int.mul_ediv_add_emod y D
  have b := Int.emod_nonneg y (show D ≠ 0 by omega)
  have c := Int.emod_lt_of_pos y hDp
  rw [← hi] at a
  have e1 : (2 : Int) ^ (s + m - 1) = D * ((2 ^ (m - 1) : Nat) : Int) := by
    rw [show s + m - 1 = s + (m - 1) by omega, Int.pow_add, hD]; simp
  have e2 : (2 : Int) ^ (s + m) = D * ((2 ^ m : Nat) : Int) := by
    rw [Int.pow_add, hD]; simp
  rw [e1, e2]
  have f1 : D * ((2 ^ (m - 1) : Nat) : Int) ≤ D * (i : Int) := Int.mul_le_mul_of_nonneg_left (by exact_mod_cast h2) (by omega)
  have f2 : D * ((i : Int) + 1) ≤ D * ((2 ^ m : Nat) : Int) := Int.mul_le_mul_of_nonneg_left (by exact_mod_cast h3) (by omega)
  rw [Int.mul_add, Int.mul_one] at f2
  omega
set_option maxHeartbeats 1000000 in
set_option maxRecDepth 100000 in
theorem Len64_a (y : Int) (h0 : 1 ≤ y) (h1 : y < 256) : ∃ k : Nat, 1 ≤ k ∧ k ≤ 32 ∧ (2 : Int) ^ (k - 1) ≤ y ∧ y < (2 : Int) ^ k ∧ ∀ w : World,
    Calls Tryd.prog 141 #[.int .u64 y] w fun e w' => e = .returned (.int .i64 k) ∧ w = w' := by
  obtain ⟨m, hm, m1, m2, m3, m4⟩ := tab_at (y).toNat (by omega) (by omega)
  obtain ⟨b1, b2⟩ := len_up y 0 m 1 (by decide) (y).toNat (by omega) (by omega) m1 m3 m4
  refine ⟨0 + m, by omega, by omega, b1, b2, fun w => ?_⟩
  clear b1 b2 m3 m4
  have HM := Lib.hid hm
  clear hm
  go_enter Tryd.func141, Tryd.ntmps141
  go_wp2
  go_ret
  refine ⟨?_, rfl⟩
  have H : ∀ x, x = (m : Int) → wrap64 (wrap64 x) = ((0 + m : Nat) : Int) := by
    intro x hx
    subst hx; unfold wrap64; omega
  exact ret_int (H _ (congrArg (fun n : Nat => (n : Int)) HM.out))
set_option maxHeartbeats 1000000 in
set_option maxRecDepth 100000 in
theorem Len64_b (y : Int) (h0 : 256 ≤ y) (h1 : y < 65536) : ∃ k : Nat, 1 ≤ k ∧ k ≤ 32 ∧ (2 : Int) ^ (k - 1) ≤ y ∧ y < (2 : Int) ^ k ∧ ∀ w : World,
    Calls Tryd.prog 141 #[.int .u64 y] w fun e w' => e = .returned (.int .i64 k) ∧ w = w' := by
  obtain ⟨m, hm, m1, m2, m3, m4⟩ := tab_at (y / 256).toNat (by omega) (by omega)
  obtain ⟨b1, b2⟩ := len_up y 8 m 256 (by decide) (y / 256).toNat (by omega) (by omega) m1 m3 m4
  refine ⟨8 + m, by omega, by omega, b1, b2, fun w => ?_⟩
  clear b1 b2 m3 m4
  have HM := Lib.hid hm
  clear hm
  go_enter Tryd.func141, Tryd.ntmps141
  go_wp2
  go_ret
  refine ⟨?_, rfl⟩
  have H : ∀ x, x = (m : Int) → wrap64 (8 + wrap64 x) = ((8 + m : Nat) : Int) := by
    intro x hx
    subst hx; unfold wrap64; omega
  exact ret_int (H _ (congrArg (fun n : Nat => (n : Int)) HM.out))
set_option maxHeartbeats 1000000 in
set_option maxRecDepth 100000 in
theorem Len64_c (y : Int) (h0 : 65536 ≤ y) (h1 : y < 16777216) : ∃ k : Nat, 1 ≤ k ∧ k ≤ 32 ∧ (2 : Int) ^ (k - 1) ≤ y ∧ y < (2 : Int) ^ k ∧ ∀ w : World,
    Calls Tryd.prog 141 #[.int .u64 y] w fun e w' => e = .returned (.int .i64 k) ∧ w = w' := by
  obtain ⟨m, hm, m1, m2, m3, m4⟩ := tab_at (y / 65536).toNat (by omega) (by omega)
  obtain ⟨b1, b2⟩ := len_up y 16 m 65536 (by decide) (y / 65536).toNat (by omega) (by omega) m1 m3 m4
  refine ⟨16 + m, by omega, by omega, b1, b2, fun w => ?_⟩
  clear b1 b2 m3 m4
  have HM := Lib.hid hm
  clear hm
  go_enter Tryd.func141, Tryd.ntmps141
  go_wp2
  go_ret
  refine ⟨?_, rfl⟩
  have H : ∀ x, x = (m : Int) → wrap64 (16 + wrap64 x) = ((16 + m : Nat) : Int) := by
    intro x hx
    subst hx; unfold wrap64; omega
  exact ret_int (H _ (congrArg (fun n : Nat => (n : Int)) HM.out))
set_option maxHeartbeats 1000000 in
set_option maxRecDepth 100000 in
theorem Len64_d (y : Int) (h0 : 16777216 ≤ y) (h1 : y < 4294967296) : ∃ k : Nat, 1 ≤ k ∧ k ≤ 32 ∧ (2 : Int) ^ (k - 1) ≤ y ∧ y < (2 : Int) ^ k ∧ ∀ w : World,
    Calls Tryd.prog 141 #[.int .u64 y] w fun e w' => e = .returned (.int .i64 k) ∧ w = w' := by
  obtain ⟨m, hm, m1, m2, m3, m4⟩ := tab_at (y / 65536 / 256).toNat (by omega) (by omega)
  obtain ⟨b1, b2⟩ := len_up y 24 m 16777216 (by decide) (y / 65536 / 256).toNat (by omega) (by omega) m1 m3 m4
  refine ⟨24 + m, by omega, by omega, b1, b2, fun w => ?_⟩
  clear b1 b2 m3 m4
  have HM := Lib.hid hm
  clear hm
  go_enter Tryd.func141, Tryd.ntmps141
  go_wp2
  go_ret
  refine ⟨?_, rfl⟩
  have H : ∀ x, x = (m : Int) → wrap64 (24 + wrap64 x) = ((24 + m : Nat) : Int) := by
    intro x hx
    subst hx; unfold wrap64; omega
  exact ret_int (H _ (congrArg (fun n : Nat => (n : Int)) HM.out))
theorem Len64_any (y : Int) (h0 : 1 ≤ y) (h1 : y < 4294967296) : ∃ k : Nat, 1 ≤ k ∧ k ≤ 32 ∧ (2 : Int) ^ (k - 1) ≤ y ∧ y < (2 : Int) ^ k ∧ ∀ w : World,
    Calls Tryd.prog 141 #[.int .u64 y] w fun e w' => e = .returned (.int .i64 k) ∧ w = w' := by
  by_cases a : y < 256
  · exact Len64_a y h0 a
  by_cases b : y < 65536
  · exact Len64_b y (by omega) b
  by_cases c : y < 16777216
  · exact Len64_c y (by omega) c
  · exact Len64_d y (by omega) h1
theorem Lead_any (y : Int) (h0 : 1 ≤ y) (h1 : y < 4294967296) : ∃ k : Nat, 1 ≤ k ∧ k ≤ 32 ∧ (2 : Int) ^ (k - 1) ≤ y ∧ y < (2 : Int) ^ k ∧ ∀ w : World,
    Calls Tryd.prog 122 #[.int .u64 y] w fun e w' => e = .returned (.int .i64 (64 - k)) ∧ w = w' := by
  obtain ⟨k, a, b, c, d, H⟩ := Len64_any y h0 h1
  refine ⟨k, a, b, c, d, fun w => ?_⟩
  clear c d
  go_enter Tryd.func122, Tryd.ntmps122
  go_wp2_with fail
  refine (H _).mono ?_
  rintro e w1 ⟨rfl, rfl⟩
  go_wp2
  go_ret
  exact ⟨rfl, rfl⟩
end Go.Proofs.YtdpmijmofeechaaDoor.LenW
