/- Plain mathematics of the greatest common divisor, by what each number leaves of the other. -/
import Derived.Test.YtodiipkedhfncaaGreatDoorBigM
namespace Go.Proofs.YtodiipkedhfncaaGreatDoor.GcdM
open BigM
def g (a b : Int) : Int := (Int.gcd a b : Int)
theorem g_def (a b : Int) : g a b = (Nat.gcd a.natAbs b.natAbs : Int) := rfl
theorem g_nonneg (a b : Int) : 0 ≤ g a b := by rw [g_def]; omega
theorem g_zero (a : Int) : g a 0 = (a.natAbs : Int) := by simp [g_def]
theorem g_step (a b : Int) : g a b = g b (a.tmod b) := by
  rw [g_def, g_def, Int.natAbs_tmod, Nat.gcd_comm a.natAbs, Nat.gcd_rec b.natAbs a.natAbs, Nat.gcd_comm]
theorem g_one (a : Int) : g a (-1) = 1 := by simp [g_def]
theorem g_natAbs (a b : Int) : g a.natAbs b.natAbs = g a b := by simp [g_def]
theorem g_le_right (a b : Int) (h : b ≠ 0) : g a b ≤ (b.natAbs : Int) := by
  rw [g_def]; have := Nat.gcd_le_right a.natAbs (show 0 < b.natAbs by omega); omega
theorem g_le_left (a b : Int) (h : a ≠ 0) : g a b ≤ (a.natAbs : Int) := by
  rw [g_def]; have := Nat.gcd_le_left b.natAbs (show 0 < a.natAbs by omega); omega
theorem g_bd (a b : Int) (ha : -9223372036854775808 ≤ a ∧ a ≤ 9223372036854775807) (hb : -9223372036854775808 ≤ b ∧ b ≤ 9223372036854775807) : g a b ≤ 9223372036854775808 := by
  by_cases h : b = 0
  · subst h; rw [g_zero]; omega
  · have := g_le_right a b h; omega
/-- what num.Gcd and copseref01.Gcd tell -/
def gcdV (a b : Int) : Int := fitsV (g a b)
def gcdE (a b : Int) : Int := fitsE (g a b)
theorem gcd_in {a b : Int} (h : g a b ≤ 9223372036854775807) : gcdV a b = g a b ∧ gcdE a b = 0 := by
  have := g_nonneg a b
  exact fits_in (by omega) h
theorem tmod_bd (a b : Int) (h : b ≠ 0) (hb : -9223372036854775808 ≤ b ∧ b ≤ 9223372036854775807) : -9223372036854775808 ≤ a.tmod b ∧ a.tmod b ≤ 9223372036854775807 ∧ (a.tmod b).natAbs < b.natAbs := by
  have h1 : (a.tmod b).natAbs < b.natAbs := by rw [Int.natAbs_tmod]; exact Nat.mod_lt _ (by omega)
  omega
end Go.Proofs.YtodiipkedhfncaaGreatDoor.GcdM
