/- Sums that are longer than a number, plainly: three words of 64 bits, as two's complement. No program is in sight. -/
namespace Go.Proofs.YtodiipkedhfncaaGreatDoor.RptN
set_option linter.unusedVariables false
set_option linter.unusedSimpArgs false

/-- the words of a number -/
def wd0 (z : Int) : Int := z % 18446744073709551616
def wd1 (z : Int) : Int := z / 18446744073709551616 % 18446744073709551616
def wd2 (z : Int) : Int := z / 18446744073709551616 / 18446744073709551616 % 18446744073709551616
theorem wd_range (z : Int) : (0 ≤ wd0 z ∧ wd0 z < 18446744073709551616) ∧ (0 ≤ wd1 z ∧ wd1 z < 18446744073709551616) ∧ (0 ≤ wd2 z ∧ wd2 z < 18446744073709551616) := by
  unfold wd0 wd1 wd2; omega
/-- the carries of a sum -/
def cr0 (a b : Int) : Int := (wd0 a + wd0 b) / 18446744073709551616
def cr1 (a b : Int) : Int := (wd1 a + wd1 b + cr0 a b) / 18446744073709551616
theorem cr_range (a b : Int) : (0 ≤ cr0 a b ∧ cr0 a b ≤ 1) ∧ (0 ≤ cr1 a b ∧ cr1 a b ≤ 1) := by
  have h1 := wd_range a
  have h2 := wd_range b
  have h3 : 0 ≤ cr0 a b ∧ cr0 a b ≤ 1 := by unfold cr0; omega
  exact ⟨h3, by unfold cr1; omega⟩
theorem add_wd0 (a b : Int) : wd0 (a + b) = (wd0 a + wd0 b) % 18446744073709551616 := by unfold wd0; omega
theorem add_div (a b : Int) : (a + b) / 18446744073709551616 = a / 18446744073709551616 + b / 18446744073709551616 + cr0 a b := by unfold cr0 wd0; omega
theorem add_wd1 (a b : Int) : wd1 (a + b) = (wd1 a + wd1 b + cr0 a b) % 18446744073709551616 := by
  have := add_div a b
  unfold wd1
  rw [this]
  omega
theorem add_wd2 (a b : Int) : wd2 (a + b) = (wd2 a + wd2 b + cr1 a b) % 18446744073709551616 := by
  have h1 := add_div a b
  have h2 := (cr_range a b).1
  unfold wd2
  rw [h1]
  unfold cr1 wd1
  omega
/-- a size of one word, and what is taken off: the other bits, and one more -/
theorem neg_wd (n : Int) (h0 : 0 ≤ n) (h1 : n < 18446744073709551616) : wd0 (-n) = (18446744073709551615 - n + 1) % 18446744073709551616 ∧ wd1 (-n) = (18446744073709551615 + (18446744073709551615 - n + 1) / 18446744073709551616) % 18446744073709551616 ∧
    wd2 (-n) = (18446744073709551615 + (18446744073709551615 + (18446744073709551615 - n + 1) / 18446744073709551616) / 18446744073709551616) % 18446744073709551616 := by
  unfold wd0 wd1 wd2; omega
theorem pos_wd (n : Int) (h0 : 0 ≤ n) (h1 : n < 18446744073709551616) : wd0 n = n ∧ wd1 n = 0 ∧ wd2 n = 0 := by
  unfold wd0 wd1 wd2; omega
/-- a number that fits: its words are its lowest one and its sign -/
theorem fit_wd (z : Int) (h0 : -9223372036854775808 ≤ z) (h1 : z ≤ 9223372036854775807) : (if wd0 z < 9223372036854775808 then wd0 z else wd0 z - 18446744073709551616) = z ∧ (z < 0 → wd1 z = 18446744073709551615 ∧ wd2 z = 18446744073709551615) ∧ (0 ≤ z → wd1 z = 0 ∧ wd2 z = 0) := by
  refine ⟨?_, fun h => ?_, fun h => ?_⟩
  · unfold wd0; split <;> omega
  · unfold wd1 wd2; omega
  · unfold wd1 wd2; omega
end Go.Proofs.YtodiipkedhfncaaGreatDoor.RptN
