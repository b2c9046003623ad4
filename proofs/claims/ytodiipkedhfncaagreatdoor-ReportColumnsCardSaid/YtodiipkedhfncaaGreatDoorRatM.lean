/- Plain mathematics of ratios: what is right, and what comes of two. -/
import Derived.Test.YtodiipkedhfncaaGreatDoorGcdM
namespace Go.Proofs.YtodiipkedhfncaaGreatDoor.RatM
open BigM GcdM
def isR (p q : Int) : Bool := decide (1 ≤ q ∧ q ≤ 1073741824 ∧ -1073741824 ≤ p ∧ p ≤ 1073741824 ∧ g p q = 1)
theorem isR_true {p q : Int} (h : isR p q = true) : 1 ≤ q ∧ q ≤ 1073741824 ∧ -1073741824 ≤ p ∧ p ≤ 1073741824 ∧ g p q = 1 := of_decide_eq_true h
theorem isR_mk {p q : Int} (h : 1 ≤ q ∧ q ≤ 1073741824 ∧ -1073741824 ≤ p ∧ p ≤ 1073741824 ∧ g p q = 1) : isR p q = true := decide_eq_true h
theorem isR_no {p q : Int} (h : ¬(1 ≤ q ∧ q ≤ 1073741824 ∧ -1073741824 ≤ p ∧ p ≤ 1073741824)) : isR p q = false := decide_eq_false (fun k => h ⟨k.1, k.2.1, k.2.2.1, k.2.2.2.1⟩)
theorem isR_g {p q : Int} (h1 : 1 ≤ q) (h2 : q ≤ 1073741824) (h3 : -1073741824 ≤ p) (h4 : p ≤ 1073741824) : (gcdV p q == 1) = isR p q := by
  have hg := g_le_right p q (by omega)
  rw [(gcd_in (a := p) (b := q) (by omega)).1]
  unfold isR
  by_cases h : g p q = 1
  · rw [h]; simp [h1, h2, h3, h4]
  · simp [h]
def longB (n : Int) : Bool := decide (n < -1073741824 ∨ 1073741824 < n)
def ofX (p q : Int) : Int := p.tdiv (g p q)
def ofY (p q : Int) : Int := q.tdiv (g p q)
def ofR (p q : Int) : Int × Int × Int :=
  if q = 0 then (0, 0, 11) else if (longB (ofX p q) || longB (ofY p q)) = true then (0, 0, 10) else if ofY p q < 0 then (-ofX p q, -ofY p q, 0) else (ofX p q, ofY p q, 0)
theorem ofR_zero (p : Int) : ofR p 0 = (0, 0, 11) := by unfold ofR; rw [if_pos rfl]
theorem ofR_long {p q : Int} (h : q ≠ 0) (h2 : (longB (ofX p q) || longB (ofY p q)) = true) : ofR p q = (0, 0, 10) := by unfold ofR; rw [if_neg h, if_pos h2]
theorem ofR_neg {p q : Int} (h : q ≠ 0) (h2 : (longB (ofX p q) || longB (ofY p q)) = false) (h3 : ofY p q < 0) : ofR p q = (-ofX p q, -ofY p q, 0) := by
  unfold ofR; rw [if_neg h, if_neg (by rw [h2]; decide), if_pos h3]
theorem ofR_pos {p q : Int} (h : q ≠ 0) (h2 : (longB (ofX p q) || longB (ofY p q)) = false) (h3 : ¬ofY p q < 0) : ofR p q = (ofX p q, ofY p q, 0) := by
  unfold ofR; rw [if_neg h, if_neg (by rw [h2]; decide), if_neg h3]
theorem g_pos {p q : Int} (h : q ≠ 0) : 1 ≤ g p q := by
  rw [g_def]; have := Nat.gcd_pos_of_pos_right p.natAbs (show 0 < q.natAbs by omega); omega
theorem tdiv_bd (p d : Int) (hd : 1 ≤ d) (h : -9223372036854775808 ≤ p ∧ p ≤ 9223372036854775807) : -9223372036854775808 ≤ p.tdiv d ∧ p.tdiv d ≤ 9223372036854775807 := by
  have h1 : (p.tdiv d).natAbs ≤ p.natAbs := by rw [Int.natAbs_tdiv]; exact Nat.div_le_self _ _
  have h2 : p.tdiv d < 0 → p < 0 := by
    intro hlt
    rcases Int.lt_or_le p 0 with h3 | h3
    · exact h3
    · exfalso; have := Int.tdiv_nonneg h3 (show 0 ≤ d by omega); omega
  have h3 : p ≤ 0 → p.tdiv d ≤ 0 := by
    intro hle
    have := Int.tdiv_nonneg (show 0 ≤ -p by omega) (show 0 ≤ d by omega)
    rw [Int.neg_tdiv] at this
    omega
  omega
/-- both are the least number, or the second is, and the first 0 -/
theorem g_over {p q : Int} (hp : -9223372036854775808 ≤ p ∧ p ≤ 9223372036854775807) (hq : -9223372036854775808 ≤ q ∧ q ≤ 9223372036854775807) (h0 : q ≠ 0) (h : ¬ g p q ≤ 9223372036854775807) :
    g p q = 9223372036854775808 ∧ q = -9223372036854775808 ∧ (p = 0 ∨ p = -9223372036854775808) := by
  have h1 := g_bd p q hp hq
  have h2 := g_le_right p q h0
  have h3 : q = -9223372036854775808 := by omega
  refine ⟨by omega, h3, ?_⟩
  by_cases hz : p = 0
  · exact .inl hz
  · have h4 := g_le_left p q hz; right; omega
theorem ofR_over0 {q : Int} (hq : -9223372036854775808 ≤ q ∧ q ≤ 9223372036854775807) (h0 : q ≠ 0) (h : ¬ g 0 q ≤ 9223372036854775807) : ofR 0 q = (0, 1, 0) := by
  obtain ⟨h1, rfl, _⟩ := g_over (p := 0) (by omega) hq h0 h
  have hx : ofX 0 (-9223372036854775808) = 0 := by unfold ofX; simp
  have hy : ofY 0 (-9223372036854775808) = -1 := by unfold ofY; rw [h1]; decide
  rw [ofR_neg (by omega) (by rw [hx, hy]; decide) (by rw [hy]; decide), hx, hy]; rfl
theorem ofR_over1 {p q : Int} (hp : -9223372036854775808 ≤ p ∧ p ≤ 9223372036854775807) (hq : -9223372036854775808 ≤ q ∧ q ≤ 9223372036854775807) (h0 : q ≠ 0) (h : ¬ g p q ≤ 9223372036854775807) (hz : p ≠ 0) : ofR p q = (1, 1, 0) := by
  obtain ⟨h1, rfl, h2⟩ := g_over hp hq h0 h
  obtain rfl : p = -9223372036854775808 := by omega
  have hx : ofX (-9223372036854775808) (-9223372036854775808) = -1 := by unfold ofX; rw [h1]; decide
  have hy : ofY (-9223372036854775808) (-9223372036854775808) = -1 := by unfold ofY; rw [h1]; decide
  rw [ofR_neg (by omega) (by rw [hx, hy]; decide) (by rw [hy]; decide), hx, hy]; rfl
def bothE (p q r s : Int) : Int := if (isR p q && isR r s) = true then 0 else 30
theorem mul_bd {a b m n : Int} (ha : -m ≤ a ∧ a ≤ m) (hb : -n ≤ b ∧ b ≤ n) : -(m * n) ≤ a * b ∧ a * b ≤ m * n := by
  have hm : 0 ≤ m := by omega
  have hn : 0 ≤ n := by omega
  have h1 : (a * b).natAbs ≤ (m * n).natAbs := by
    rw [Int.natAbs_mul, Int.natAbs_mul]; exact Nat.mul_le_mul (by omega) (by omega)
  have h2 : 0 ≤ m * n := Int.mul_nonneg hm hn
  omega
theorem mul60 {a b : Int} (ha : -1073741824 ≤ a ∧ a ≤ 1073741824) (hb : -1073741824 ≤ b ∧ b ≤ 1073741824) : -1152921504606846976 ≤ a * b ∧ a * b ≤ 1152921504606846976 := by
  have := mul_bd ha hb; omega
/-- what comes of two -/
def addR (p q r s : Int) : Int × Int × Int := if (isR p q && isR r s) = true then ofR (p * s + r * q) (q * s) else (0, 0, 30)
/-- what 'Do' makes of two: 0 adds, 1 takes off, 2 multiplies, 3 divides -/
def numP (k p q r s : Int) : Int := if k = 0 then p * s + r * q else if k = 1 then p * s - r * q else if k = 2 then p * r else p * s
def numQ (k _p q r s : Int) : Int := if k = 0 then q * s else if k = 1 then q * s else if k = 2 then q * s else q * r
def doR (k p q r s : Int) : Int × Int × Int := if (isR p q && isR r s) = true then ofR (numP k p q r s) (numQ k p q r s) else (0, 0, 30)
theorem doR_bad {k p q r s : Int} (h : ¬(isR p q && isR r s) = true) : doR k p q r s = (0, 0, 30) := by unfold doR; rw [if_neg h]
theorem doR_ok {k p q r s : Int} (h : (isR p q && isR r s) = true) : doR k p q r s = ofR (numP k p q r s) (numQ k p q r s) := by unfold doR; rw [if_pos h]
theorem addR_do (p q r s : Int) : addR p q r s = doR 0 p q r s := rfl
end Go.Proofs.YtodiipkedhfncaaGreatDoor.RatM
