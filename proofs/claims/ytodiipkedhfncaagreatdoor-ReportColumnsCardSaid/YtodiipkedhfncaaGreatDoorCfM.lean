/- A way to work, plainly: which is right, its turns. No program is in sight but the values of its fields. -/
import Derived.Test.YtodiipkedhfncaaGreatDoorSeqM
namespace Go.Proofs.YtodiipkedhfncaaGreatDoor.CfM
set_option linter.unusedVariables false
open Go.RowKit Base SeqM

/-- a way to work: Dim, Window, Trees, Sample, Every, Kind, Part, Whole, Tries, Keep, Notes -/
structure Cf where
  c0 : Int
  c1 : Int
  c2 : Int
  c3 : Int
  c4 : Int
  c5 : Int
  c6 : Int
  c7 : Int
  c8 : Int
  c9 : Int
  c10 : Int
def confOk (c : Cf) : Prop := (1 ≤ c.c0 ∧ c.c0 ≤ 8) ∧ (2 ≤ c.c1 ∧ c.c1 ≤ 256) ∧ (1 ≤ c.c2 ∧ c.c2 ≤ 16) ∧ (2 ≤ c.c3 ∧ c.c3 ≤ 64 ∧ c.c3 ≤ c.c1) ∧ (1 ≤ c.c4 ∧ c.c4 ≤ 256) ∧ (1 ≤ c.c5 ∧ c.c5 ≤ 2) ∧
  (2 ≤ c.c7 ∧ c.c7 ≤ 1000) ∧ (1 ≤ c.c6 ∧ c.c6 ≤ c.c7 - 1) ∧ (1 ≤ c.c8 ∧ c.c8 ≤ 64) ∧ (1 ≤ c.c9 ∧ c.c9 ≤ 64) ∧ (1 ≤ c.c10 ∧ c.c10 ≤ 256)
instance (c : Cf) : Decidable (confOk c) := by unfold confOk; infer_instance
def cfC (c : Cf) : List Value := [.int .i64 c.c0, .int .i64 c.c1, .int .i64 c.c2, .int .i64 c.c3, .int .i64 c.c4, .int .i64 c.c5, .int .i64 c.c6, .int .i64 c.c7, .int .i64 c.c8, .int .i64 c.c9, .int .i64 c.c10]
def confB (c : Cf) : Bool := decide (confOk c)
theorem conf_yes {c : Cf} (h : confOk c) : confB c = true := decide_eq_true h
theorem conf_no {c : Cf} (h : ¬ confOk c) : confB c = false := decide_eq_false h
/-- the least number of which b times is not below a -/
def ceilC (a b : Int) : Int := (a + b - 1) / b
theorem ceil_code {a b : Int} (hb : 1 ≤ b) : ceilC a b = a / b + (if 0 < a % b then 1 else 0) := by
  unfold ceilC
  have h1 := Int.emod_nonneg a (show b ≠ 0 by omega)
  have h2 := Int.emod_lt_of_pos a (show 0 < b by omega)
  have h3 := Int.mul_ediv_add_emod a b
  generalize a / b = q at *
  generalize a % b = r at *
  have e : a + b - 1 = (r + b - 1) + b * q := by omega
  rw [e, Int.add_mul_ediv_left _ _ (by omega)]
  split
  · have : (r + b - 1) / b = 1 := by
      rw [show r + b - 1 = (r - 1) + b * 1 by omega, Int.add_mul_ediv_left _ _ (by omega), Int.ediv_eq_zero_of_lt (by omega) (by omega)]; rfl
    omega
  · have : (r + b - 1) / b = 0 := Int.ediv_eq_zero_of_lt (by omega) (by omega)
    omega
theorem ceil_bd {a b : Int} (ha : 0 ≤ a) (hb : 1 ≤ b) : a ≤ ceilC a b * b ∧ ceilC a b * b ≤ a + b - 1 ∧ 0 ≤ ceilC a b ∧ ceilC a b ≤ a := by
  unfold ceilC
  have h1 := Int.emod_nonneg (a + b - 1) (show b ≠ 0 by omega)
  have h2 := Int.emod_lt_of_pos (a + b - 1) (show 0 < b by omega)
  have h3 := Int.mul_ediv_add_emod (a + b - 1) b
  have h4 : 0 ≤ (a + b - 1) / b := Int.ediv_nonneg (by omega) (by omega)
  have h5 : (a + b - 1) / b ≤ a := by
    by_cases h0 : a = 0
    · subst h0
      rw [show (0 : Int) + b - 1 = b - 1 by omega, Int.ediv_eq_zero_of_lt (by omega) (by omega)]
      exact Int.le_refl 0
    · have h6 : (a + b - 1) / b ≤ (a * b) / b := Int.ediv_le_ediv (by omega) (by
        obtain ⟨k, rfl⟩ : ∃ k, a = k + 1 := ⟨a - 1, by omega⟩
        have : 0 ≤ k * (b - 1) := Int.mul_nonneg (by omega) (by omega)
        have e : (k + 1) * b = k * (b - 1) + k + b := by rw [Int.add_mul, Int.mul_sub]; omega
        omega)
      rw [Int.mul_ediv_cancel _ (by omega)] at h6
      exact h6
  generalize (a + b - 1) / b = q at *
  rw [Int.mul_comm] at h3
  refine ⟨by omega, by omega, h4, h5⟩
/-- the turn behind a count -/
def nextC (c : Cf) (n : Int) : Int := ceilC (max (n + 1) c.c3) c.c4 * c.c4
def cnt (n : Int) : Prop := 0 ≤ n ∧ n ≤ 1099511627776
instance (n : Int) : Decidable (cnt n) := by unfold cnt; infer_instance
theorem next_bd {c : Cf} (h : confOk c) {n : Int} (hn : cnt n) : n < nextC c n ∧ nextC c n ≤ n + 64 + 256 ∧ c.c3 ≤ nextC c n := by
  unfold cnt at hn
  unfold confOk at h
  have hm : 0 ≤ max (n + 1) c.c3 := by omega
  have hb := ceil_bd hm (show 1 ≤ c.c4 by omega)
  unfold nextC
  generalize ceilC (max (n + 1) c.c3) c.c4 * c.c4 = q at *
  omega
/-- how many turns there are up to a count -/
def upC (c : Cf) (n : Int) : Int := if n < nextC c 0 then 0 else (n - nextC c 0) / c.c4 + 1
theorem up_bd {c : Cf} (h : confOk c) {n : Int} (hn : cnt n) : 0 ≤ upC c n ∧ upC c n ≤ n := by
  have h0 := next_bd h (n := 0) (by decide)
  unfold cnt at hn
  unfold confOk at h
  unfold upC
  split
  · omega
  · have h1 : 0 ≤ (n - nextC c 0) / c.c4 := Int.ediv_nonneg (by omega) (by omega)
    have h2 : (n - nextC c 0) / c.c4 ≤ n - nextC c 0 := by
      have := Int.ediv_le_self (a := n - nextC c 0) c.c4 (by omega)
      exact this
    omega
end Go.Proofs.YtodiipkedhfncaaGreatDoor.CfM
