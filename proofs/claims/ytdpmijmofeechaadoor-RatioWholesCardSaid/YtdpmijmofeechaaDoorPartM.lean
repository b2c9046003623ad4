/- Plain laws of what is whole of a number's part: the program's way (without signs, by a wide division) and the document's (by two divisions). -/
import Derived.Test.YtdpmijmofeechaaDoorRatM
namespace Go.Proofs.YtdpmijmofeechaaDoor.PartM
open BigM GcdM RatM

/-- a wide number by a divisor: the upper word by itself, its rest before the lower one -/
theorem wide_div (N y : Int) (_h0 : 0 ≤ N) (hy : 1 ≤ y) : N / 18446744073709551616 / y = N / y / 18446744073709551616 ∧
    (N / 18446744073709551616 % y * 18446744073709551616 + N % 18446744073709551616) / y = N / y % 18446744073709551616 ∧
    (N / 18446744073709551616 % y * 18446744073709551616 + N % 18446744073709551616) % y = N % y := by
  obtain ⟨H, eH⟩ : ∃ H, N / 18446744073709551616 = H := ⟨_, rfl⟩
  obtain ⟨L, eL⟩ : ∃ L, N % 18446744073709551616 = L := ⟨_, rfl⟩
  have a1 := Int.mul_ediv_add_emod H y
  have a2 := Int.emod_nonneg H (show y ≠ 0 by omega)
  have a3 := Int.emod_lt_of_pos H (show 0 < y by omega)
  obtain ⟨q, eq⟩ : ∃ q, H / y = q := ⟨_, rfl⟩
  obtain ⟨r, er⟩ : ∃ r, H % y = r := ⟨_, rfl⟩
  rw [eH, eL, eq, er]
  rw [eq, er] at a1
  rw [er] at a2 a3
  have hL : 0 ≤ L ∧ L < 18446744073709551616 := by omega
  have hN : N = r * 18446744073709551616 + L + y * (q * 18446744073709551616) := by
    rw [← Int.mul_assoc]; omega
  obtain ⟨M, eM⟩ : ∃ M, r * 18446744073709551616 + L = M := ⟨_, rfl⟩
  rw [eM] at hN ⊢
  have hM0 : 0 ≤ M := by omega
  have hM1 : M < y * 18446744073709551616 := by omega
  have b0 := Int.ediv_nonneg hM0 (show 0 ≤ y by omega)
  have b1 : M / y < 18446744073709551616 := Int.ediv_lt_of_lt_mul (by omega) (by rw [Int.mul_comm]; exact hM1)
  rw [hN, Int.add_mul_ediv_left _ _ (by omega), Int.add_mul_emod_self_left]
  omega

/-- what is whole of n's part p/q, and its error -/
def partV (n p q : Int) : Int := if isR p q = true then fitsV (n * p / q) else 0
def partE (n p q : Int) : Int := if isR p q = true then fitsE (n * p / q) else 30

theorem neg_div (N q : Int) (hq : 1 ≤ q) : (-N) / q = if 0 < N % q then -(N / q + 1) else -(N / q) := by
  have a1 := Int.mul_ediv_add_emod N q
  have a2 := Int.emod_nonneg N (show q ≠ 0 by omega)
  have a3 := Int.emod_lt_of_pos N (show 0 < q by omega)
  obtain ⟨d, ed⟩ : ∃ d, N / q = d := ⟨_, rfl⟩
  obtain ⟨r, er⟩ : ∃ r, N % q = r := ⟨_, rfl⟩
  rw [ed, er] at a1 ⊢
  rw [er] at a2 a3
  split
  · have : -N = (q - r) + q * (-(d + 1)) := by rw [Int.mul_neg, Int.mul_add, Int.mul_one]; omega
    rw [this, Int.add_mul_ediv_left _ _ (by omega), Int.ediv_eq_zero_of_lt (by omega) (by omega), Int.zero_add]
  · have h0 : r = 0 := by omega
    have : -N = 0 + q * (-d) := by rw [Int.mul_neg]; omega
    rw [this, Int.add_mul_ediv_left _ _ (by omega), Int.zero_ediv, Int.zero_add]
theorem natAbs_mul_sign (n p : Int) : (¬ (n < 0 ↔ p < 0) → n * p = -((n.natAbs : Int) * p.natAbs)) ∧ ((n < 0 ↔ p < 0) → n * p = (n.natAbs : Int) * p.natAbs) := by
  by_cases a : n < 0 <;> by_cases b : p < 0
  · refine ⟨fun h => absurd (⟨fun _ => b, fun _ => a⟩) h, fun _ => ?_⟩
    rw [show (n.natAbs : Int) = -n by omega, show (p.natAbs : Int) = -p by omega, Int.neg_mul_neg]
  · refine ⟨fun _ => ?_, fun h => absurd (h.1 a) b⟩
    rw [show (n.natAbs : Int) = -n by omega, show (p.natAbs : Int) = p by omega, Int.neg_mul, Int.neg_neg]
  · refine ⟨fun _ => ?_, fun h => absurd (h.2 b) a⟩
    rw [show (n.natAbs : Int) = n by omega, show (p.natAbs : Int) = -p by omega, Int.mul_neg, Int.neg_neg]
  · refine ⟨fun h => absurd (⟨fun x => absurd x a, fun x => absurd x b⟩) h, fun _ => ?_⟩
    rw [show (n.natAbs : Int) = n by omega, show (p.natAbs : Int) = p by omega]
/-- the document's way -/
theorem ref_part (n p q : Int) (hq : 1 ≤ q) : n / q * p + n % q * p / q = n * p / q := by
  have a1 := Int.mul_ediv_add_emod n q
  conv => rhs; rw [← a1]
  rw [Int.add_mul, Int.mul_assoc, Int.mul_add_ediv_left _ _ (by omega)]
end Go.Proofs.YtdpmijmofeechaaDoor.PartM
