/- Plain mathematics of wide numbers: how products lie. -/
import Derived.Test.YtodiipkedhfncaaGreatDoorBigM
namespace Go.Proofs.YtodiipkedhfncaaGreatDoor.WideM
open BigM
def two64 : Int := 18446744073709551616
theorem two64_def : two64 = 18446744073709551616 := rfl
theorem ord_cases (a b : Int) : (ord a b = -1 ∧ a < b) ∨ (ord a b = 0 ∧ a = b) ∨ (ord a b = 1 ∧ b < a) := by
  rcases Int.lt_trichotomy a b with h | h | h
  · exact .inl ⟨ord_lt h, h⟩
  · exact .inr (.inl ⟨ord_eq h, h⟩)
  · exact .inr (.inr ⟨ord_gt h, h⟩)
theorem sgn_mul (a b : Int) : ord (a * b) 0 = ord a 0 * ord b 0 := by
  rcases ord_cases a 0 with ⟨e, h⟩ | ⟨e, h⟩ | ⟨e, h⟩ <;> rcases ord_cases b 0 with ⟨e2, h2⟩ | ⟨e2, h2⟩ | ⟨e2, h2⟩ <;> rw [e, e2]
  · exact ord_gt (Int.mul_pos_of_neg_of_neg h h2)
  · rw [h2, Int.mul_zero]; rfl
  · exact ord_lt (Int.mul_neg_of_neg_of_pos h h2)
  · rw [h, Int.zero_mul]; rfl
  · rw [h, Int.zero_mul]; rfl
  · rw [h, Int.zero_mul]; rfl
  · exact ord_lt (Int.mul_neg_of_pos_of_neg h h2)
  · rw [h2, Int.mul_zero]; rfl
  · exact ord_gt (Int.mul_pos h h2)
theorem prods_ne (x y : Int) (h : ord x 0 ≠ ord y 0) : ord (ord x 0) (ord y 0) = ord x y := by
  rcases ord_cases x 0 with ⟨e, h1⟩ | ⟨e, h1⟩ | ⟨e, h1⟩ <;> rcases ord_cases y 0 with ⟨e2, h2⟩ | ⟨e2, h2⟩ | ⟨e2, h2⟩ <;> rw [e, e2] at h ⊢
  all_goals first
    | exact absurd rfl h
    | (rw [ord_lt (show x < y by omega)]; rfl)
    | (rw [ord_gt (show y < x by omega)]; rfl)
theorem prods_eq (x y : Int) (h : ord x 0 = ord y 0) : ord x 0 * ord (x.natAbs : Int) (y.natAbs : Int) = ord x y := by
  rcases ord_cases x 0 with ⟨e, h1⟩ | ⟨e, h1⟩ | ⟨e, h1⟩ <;> rcases ord_cases y 0 with ⟨e2, h2⟩ | ⟨e2, h2⟩ | ⟨e2, h2⟩ <;> rw [e, e2] at h <;> rw [e]
  all_goals first
    | exact absurd h (by decide)
    | skip
  · rcases ord_cases x y with ⟨f, g⟩ | ⟨f, g⟩ | ⟨f, g⟩ <;> rw [f]
    · rw [ord_gt (show (y.natAbs : Int) < x.natAbs by omega)]; rfl
    · rw [ord_eq (show (x.natAbs : Int) = y.natAbs by omega)]; rfl
    · rw [ord_lt (show (x.natAbs : Int) < y.natAbs by omega)]; rfl
  · rw [Int.zero_mul, ord_eq (show x = y by omega)]
  · rcases ord_cases x y with ⟨f, g⟩ | ⟨f, g⟩ | ⟨f, g⟩ <;> rw [f]
    · rw [ord_lt (show (x.natAbs : Int) < y.natAbs by omega)]; rfl
    · rw [ord_eq (show (x.natAbs : Int) = y.natAbs by omega)]; rfl
    · rw [ord_gt (show (y.natAbs : Int) < x.natAbs by omega)]; rfl
theorem ord_bd (a b : Int) : -1 ≤ ord a b ∧ ord a b ≤ 1 := by unfold ord; split <;> (try split) <;> omega
/-- two words are compared word by word -/
theorem ord_words {h l h' l' : Int} (h0 : 0 ≤ l) (h1 : l < two64) (h2 : 0 ≤ l') (h3 : l' < two64) : (if h = h' then ord l l' else ord h h') = ord (h * two64 + l) (h' * two64 + l') := by
  unfold two64 at *
  split
  · subst h
    rcases ord_cases l l' with ⟨f, g⟩ | ⟨f, g⟩ | ⟨f, g⟩ <;> rw [f]
    · rw [ord_lt (by omega)]
    · rw [ord_eq (by omega)]
    · rw [ord_gt (by omega)]
  · rcases ord_cases h h' with ⟨f, g⟩ | ⟨f, g⟩ | ⟨f, g⟩ <;> rw [f]
    · rw [ord_lt (by omega)]
    · omega
    · rw [ord_gt (by omega)]
theorem words (x : Int) : x / 18446744073709551616 * two64 + x % 18446744073709551616 = x := by unfold two64; omega
theorem natAbs_mul' (a b : Int) : (a.natAbs : Int) * (b.natAbs : Int) = ((a * b).natAbs : Int) := by rw [Int.natAbs_mul]; simp
theorem natAbs_bd {a : Int} (h0 : -9223372036854775808 ≤ a) (h1 : a ≤ 9223372036854775807) : 0 ≤ (a.natAbs : Int) ∧ (a.natAbs : Int) ≤ 9223372036854775808 := by omega
end Go.Proofs.YtodiipkedhfncaaGreatDoor.WideM
