/- Plain mathematics of harmonic numbers in whole numbers. No program is in sight. -/
import Derived.Test.YtodiipkedhfncaaGreatDoorRatM
namespace Go.Proofs.YtodiipkedhfncaaGreatDoor.HarmM
open BigM GcdM RatM
def clamp (v lo hi : Int) : Int := if v < lo then lo else if hi < v then hi else v
def held (n : Int) : Int := if n < 0 then 0 else if 256 < n then 256 else n
theorem held_bd (n : Int) : 0 ≤ held n ∧ held n ≤ 256 := by unfold held; split <;> (try split) <;> omega
theorem held_clamp (n : Int) : clamp n 0 256 = held n := rfl
theorem held_held (n : Int) (h : 0 ≤ n) (h2 : n ≤ 256) : held n = n := by unfold held; split <;> (try split) <;> omega
def lowN : Nat → Int
  | 0 => 0
  | k + 1 => lowN k + 1073741824 / ((k : Int) + 1)
def brokenN : Nat → Int
  | 0 => 0
  | k + 1 => brokenN k + (if 0 < 1073741824 % ((k : Int) + 1) then 1 else 0)
theorem unit_bd (k : Nat) : 0 ≤ (1073741824 : Int) / ((k : Int) + 1) ∧ (1073741824 : Int) / ((k : Int) + 1) ≤ 1073741824 :=
  ⟨Int.ediv_nonneg (by omega) (by omega), Int.ediv_le_self _ (by omega)⟩
theorem lowN_bd (k : Nat) : 0 ≤ lowN k ∧ lowN k ≤ 1073741824 * k := by
  induction k with
  | zero => simp [lowN]
  | succ k ih => have := unit_bd k; simp only [lowN]; omega
theorem brokenN_bd (k : Nat) : 0 ≤ brokenN k ∧ brokenN k ≤ k := by
  induction k with
  | zero => simp [brokenN]
  | succ k ih => simp only [brokenN]; split <;> omega
def low (n : Int) : Int := lowN (held n).toNat
def brok (n : Int) : Int := brokenN (held n).toNat
theorem low_bd (n : Int) : 0 ≤ low n ∧ low n ≤ 274877906944 := by
  have := lowN_bd (held n).toNat; have := held_bd n; unfold low; omega
theorem brok_bd (n : Int) : 0 ≤ brok n ∧ brok n ≤ 256 := by
  have := brokenN_bd (held n).toNat; have := held_bd n; unfold brok; omega
/-- a share, rounded up -/
theorem ceil_eq (x k : Int) (hk : 0 < k) : (x + k - 1) / k = x / k + (if 0 < x % k then 1 else 0) := by
  have h1 := Int.mul_ediv_add_emod x k
  have h2 := Int.emod_nonneg x (show k ≠ 0 by omega)
  have h3 := Int.emod_lt_of_pos x hk
  split
  · rw [show x + k - 1 = (x % k - 1) + k * (x / k + 1) by rw [Int.mul_add]; omega, Int.add_mul_ediv_left _ _ (by omega), Int.ediv_eq_zero_of_lt (by omega) (by omega)]; omega
  · rw [show x + k - 1 = (k - 1) + k * (x / k) by omega, Int.add_mul_ediv_left _ _ (by omega), Int.ediv_eq_zero_of_lt (by omega) (by omega)]; omega
def endsLo (n l : Int) : Int := if n < 2 then 0 else 2 * l - (2147483648 * (n - 1) / n + if 0 < 2147483648 * (n - 1) % n then 1 else 0)
def endsHi (n l b : Int) : Int := if n < 2 then 0 else 2 * (l + b) - 2147483648 * (n - 1) / n
def eLo (n : Int) : Int := endsLo (held n) (low (held n - 1))
def eHi (n : Int) : Int := endsHi (held n) (low (held n - 1)) (brok (held n - 1))
theorem share_bd (n : Int) (h : 2 ≤ n) : 0 ≤ 2147483648 * (n - 1) / n ∧ 2147483648 * (n - 1) / n < 2147483648 := by
  refine ⟨Int.ediv_nonneg (by omega) (by omega), Int.ediv_lt_of_lt_mul (by omega) ?_⟩
  omega
theorem lowN_ge (k : Nat) (h : 1 ≤ k) : 1073741824 ≤ lowN k := by
  induction k with
  | zero => omega
  | succ k ih =>
    have := unit_bd k
    rcases Nat.eq_zero_or_pos k with rfl | h1
    · decide
    · have := ih h1; simp only [lowN]; omega
theorem low_ge (n : Int) (h : 1 ≤ n) : 1073741824 ≤ low n := by
  unfold low; exact lowN_ge _ (by unfold held; split <;> (try split) <;> omega)
theorem eLo_bd (n : Int) : 0 ≤ eLo n ∧ eLo n ≤ 549755813888 := by
  have h := low_bd (held n - 1)
  unfold eLo endsLo
  split
  · omega
  · have h2 := share_bd (held n) (by omega)
    have h3 := low_ge (held n - 1) (by omega)
    split <;> omega
theorem eHi_bd (n : Int) : 0 ≤ eHi n ∧ eHi n ≤ 549755814400 := by
  have h := low_bd (held n - 1)
  have h1 := brok_bd (held n - 1)
  unfold eHi endsHi
  split
  · omega
  · have h2 := share_bd (held n) (by omega)
    have h3 := low_ge (held n - 1) (by omega)
    omega
def norm (n : Int) : Int := (eLo n + eHi n) / 2
/-- the harmonic number as a ratio, behind k points: its parts, and an error -/
def fracN : Nat → Int × Int × Int
  | 0 => (0, 1, 0)
  | k + 1 => if (fracN k).2.2 ≠ 0 then fracN k else
      if (addR (fracN k).1 (fracN k).2.1 1 ((k : Int) + 1)).2.2 ≠ 0 then (0, 0, (addR (fracN k).1 (fracN k).2.1 1 ((k : Int) + 1)).2.2) else addR (fracN k).1 (fracN k).2.1 1 ((k : Int) + 1)
/-- the harmonic number exactly: what is to be divided, by what -/
def botN : Nat → Int
  | 0 => 1
  | k + 1 => botN k * ((k : Int) + 1)
def topN : Nat → Int
  | 0 => 0
  | k + 1 => topN k * ((k : Int) + 1) + botN k
end Go.Proofs.YtodiipkedhfncaaGreatDoor.HarmM
