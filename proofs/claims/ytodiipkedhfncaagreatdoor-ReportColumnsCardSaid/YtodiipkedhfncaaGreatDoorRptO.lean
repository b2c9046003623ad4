/- Reports, plainly: the bits of a root, how many scores have a level of so many hundreds, the words of a wide number. No program is in sight. -/
import Derived.Test.YtodiipkedhfncaaGreatDoorRptM
namespace Go.Proofs.YtodiipkedhfncaaGreatDoor.RptO
open RptM
set_option linter.unusedVariables false
set_option linter.unusedSimpArgs false

/-! ### The bits of a root -/
/-- nothing below bit k is set -/
def Rt (k r : Nat) : Prop := r % 2 ^ k = 0 ∧ r < 18446744073709551616
theorem rt_start : Rt 64 0 := ⟨by simp, by omega⟩
theorem rt_down {k r : Nat} (h : Rt (k + 1) r) : Rt k r := by
  refine ⟨?_, h.2⟩
  have h1 : 2 ^ k ∣ 2 ^ (k + 1) := ⟨2, by rw [Nat.pow_succ]⟩
  exact Nat.mod_eq_zero_of_dvd (Nat.dvd_trans h1 (Nat.dvd_of_mod_eq_zero h.1))
theorem rt_room {k r : Nat} (hk : k < 64) (h : Rt (k + 1) r) : r + 2 ^ k < 18446744073709551616 := by
  obtain ⟨m, hm⟩ := Nat.dvd_of_mod_eq_zero h.1
  have h2 := h.2
  have h3 : (18446744073709551616 : Nat) = 2 ^ (k + 1) * 2 ^ (63 - k) := by rw [← Nat.pow_add, show k + 1 + (63 - k) = 64 by omega]
  have h4 : m < 2 ^ (63 - k) := by
    rw [h3, hm] at h2
    exact Nat.lt_of_mul_lt_mul_left h2
  have h5 : 2 ^ (k + 1) * (m + 1) ≤ 2 ^ (k + 1) * 2 ^ (63 - k) := Nat.mul_le_mul_left _ h4
  have h6 : 2 ^ k < 2 ^ (k + 1) := by rw [Nat.pow_succ]; have := Nat.two_pow_pos k; omega
  rw [h3, hm]
  rw [Nat.mul_add, Nat.mul_one] at h5
  omega
theorem rt_up {k r : Nat} (hk : k < 64) (h : Rt (k + 1) r) : Rt k (r + 2 ^ k) := by
  refine ⟨?_, rt_room hk h⟩
  rw [Nat.add_mod_right]
  exact (rt_down h).1
theorem rt_or {k r : Nat} (h : Rt (k + 1) r) : r ||| 2 ^ k = r + 2 ^ k := by
  obtain ⟨m, hm⟩ := Nat.dvd_of_mod_eq_zero h.1
  have h6 : 2 ^ k < 2 ^ (k + 1) := by rw [Nat.pow_succ]; have := Nat.two_pow_pos k; omega
  rw [hm]
  exact (Nat.two_pow_add_eq_or_of_lt h6 m).symm
theorem rt_step {a k r : Nat} (hk : k < 64) (h : Rt (k + 1) r) : Rt k (rootS a r k) := by
  unfold rootS
  split
  · exact rt_up hk h
  · exact rt_down h
/-- the deviation and its error: `a` the spread -/
def devV (a n : Int) : Int := if n < 1 ∨ 256 < n then 0 else if (rootF a.toNat : Int) / n > 9223372036854775807 then 0 else (rootF a.toNat : Int) / n
def devE (a n : Int) : Int := if n < 1 ∨ 256 < n then 1 else if (rootF a.toNat : Int) / n > 9223372036854775807 then 10 else 0
theorem dev_arg {a n : Int} (h : n < 1 ∨ 256 < n) : devV a n = 0 ∧ devE a n = 1 := by unfold devV devE; rw [if_pos h, if_pos h]; exact ⟨rfl, rfl⟩
theorem dev_over {a n : Int} (h : ¬ (n < 1 ∨ 256 < n)) (k : (rootF a.toNat : Int) / n > 9223372036854775807) : devV a n = 0 ∧ devE a n = 10 := by unfold devV devE; rw [if_neg h, if_neg h, if_pos k, if_pos k]; exact ⟨rfl, rfl⟩
theorem dev_ok {a n : Int} (h : ¬ (n < 1 ∨ 256 < n)) (k : ¬ (rootF a.toNat : Int) / n > 9223372036854775807) : devV a n = (rootF a.toNat : Int) / n ∧ devE a n = 0 := by unfold devV devE; rw [if_neg h, if_neg h, if_neg k, if_neg k]; exact ⟨rfl, rfl⟩
/-- what the statement says of it -/
theorem dev_says {a n : Int} (h0 : 0 ≤ a) (h1 : a < 340282366920938463463374607431768211456) (he : devE a n = 0) :
    (1 ≤ n ∧ n ≤ 256) ∧ (0 ≤ devV a n ∧ devV a n ≤ 9223372036854775807) ∧ (devV a n * n) * (devV a n * n) ≤ a ∧ a < (devV a n * n + n) * (devV a n * n + n) := by
  by_cases h : n < 1 ∨ 256 < n
  · rw [(dev_arg h).2] at he; cases he
  by_cases k : (rootF a.toNat : Int) / n > 9223372036854775807
  · rw [(dev_over h k).2] at he; cases he
  rw [(dev_ok h k).1]
  have hn : 1 ≤ n ∧ n ≤ 256 := by omega
  have hd : 0 ≤ (rootF a.toNat : Int) / n := Int.ediv_nonneg (by omega) (by omega)
  have e1 : a = (a.toNat : Int) := by omega
  have e2 : n = (n.toNat : Int) := by omega
  have ha : a.toNat < 340282366920938463463374607431768211456 := by omega
  have l := dev_low (n := n.toNat) ha
  have u := dev_high (n := n.toNat) (by omega) ha
  have e3 : (rootF a.toNat : Int) / n = ((rootF a.toNat / n.toNat : Nat) : Int) := by rw [Int.natCast_ediv, ← e2]
  refine ⟨hn, ⟨hd, by omega⟩, ?_, ?_⟩
  · rw [e3, e2, ← Int.natCast_mul, ← Int.natCast_mul]
    have := Int.ofNat_le.2 l
    simp only [Int.toNat_natCast] at this ⊢
    omega
  · rw [e3, e2, ← Int.natCast_mul, ← Int.natCast_add, ← Int.natCast_mul]
    have := Int.ofNat_lt.2 u
    simp only [Int.toNat_natCast] at this ⊢
    omega
/-! ### Levels -/
/-- one more at a place -/
def bump (l : List Int) (k : Nat) : List Int := l.set k (l.getD k 0 + 1)
theorem bump_length (l : List Int) (k : Nat) : (bump l k).length = l.length := by unfold bump; simp
theorem bump_sum : ∀ (l : List Int) (k : Nat), k < l.length → (bump l k).sum = l.sum + 1
  | [], k, h => by simp at h
  | x :: l, 0, _ => by simp [bump]; omega
  | x :: l, k + 1, h => by
    have := bump_sum l k (by simpa using h)
    unfold bump at this ⊢
    simp only [List.set_cons_succ, List.getD_cons_succ, List.sum_cons]
    omega
theorem bump_le {B : Int} {l : List Int} {k : Nat} (hB : 0 ≤ B) (h : ∀ x ∈ l, 0 ≤ x ∧ x ≤ B) : ∀ x ∈ bump l k, 0 ≤ x ∧ x ≤ B + 1 := by
  intro x hx
  unfold bump at hx
  rcases List.mem_or_eq_of_mem_set hx with hx | rfl
  · have := h x hx; omega
  · rw [List.getD_eq_getElem?_getD]
    rcases Nat.lt_or_ge k l.length with hk | hk
    · rw [List.getElem?_eq_getElem hk]
      have := h _ (List.getElem_mem hk)
      simp only [Option.getD_some]
      omega
    · rw [List.getElem?_eq_none hk]; simp; omega
/-- how many have a level of so many hundreds: none, where one of them is no score. `s p q`: a score?; `v p q`: its hundreds -/
def lev (s : Int → Int → Bool) (v : Int → Int → Nat) : List Int → List (Int × Int) → Option (List Int)
  | out, [] => some out
  | out, (p, q) :: r => if s p q then lev s v (bump out (v p q)) r else none
theorem lev_snoc {s : Int → Int → Bool} {v : Int → Int → Nat} : ∀ {l : List (Int × Int)} {o o' : List Int} {p q : Int}, lev s v o l = some o' → lev s v o (l ++ [(p, q)]) = if s p q then some (bump o' (v p q)) else none
  | [], o, o', p, q, h => by cases h; rfl
  | (a, b) :: l, o, o', p, q, h => by
    rw [lev] at h
    rw [List.cons_append, lev]
    split
    · rename_i hs; rw [if_pos hs] at h; exact lev_snoc h
    · rename_i hs; rw [if_neg hs] at h; cases h
theorem lev_take_none {s : Int → Int → Bool} {v : Int → Int → Nat} : ∀ {l m : List (Int × Int)} {o : List Int}, lev s v o l = none → lev s v o (l ++ m) = none
  | [], m, o, h => by cases h
  | (a, b) :: l, m, o, h => by
    rw [lev] at h
    rw [List.cons_append, lev]
    split
    · rename_i hs; rw [if_pos hs] at h; exact lev_take_none h
    · rfl
theorem lev_length {s : Int → Int → Bool} {v : Int → Int → Nat} : ∀ {l : List (Int × Int)} {o o' : List Int}, lev s v o l = some o' → o'.length = o.length
  | [], o, o', h => by cases h; rfl
  | (a, b) :: l, o, o', h => by
    rw [lev] at h
    split at h
    · rw [lev_length h, bump_length]
    · cases h
theorem lev_sum {s : Int → Int → Bool} {v : Int → Int → Nat} (hv : ∀ p q, s p q = true → v p q < 11) : ∀ {l : List (Int × Int)} {o o' : List Int}, o.length = 11 → lev s v o l = some o' → o'.sum = o.sum + l.length
  | [], o, o', _, h => by cases h; simp
  | (a, b) :: l, o, o', ho, h => by
    rw [lev] at h
    split at h
    · rename_i hs
      rw [lev_sum hv (by rw [bump_length]; exact ho) h, bump_sum _ _ (by rw [ho]; exact hv _ _ hs), List.length_cons]
      omega
    · cases h
theorem lev_le {s : Int → Int → Bool} {v : Int → Int → Nat} : ∀ {l : List (Int × Int)} {o o' : List Int} {B : Int}, 0 ≤ B → (∀ x ∈ o, 0 ≤ x ∧ x ≤ B) → lev s v o l = some o' → ∀ x ∈ o', 0 ≤ x ∧ x ≤ B + l.length
  | [], o, o', B, hB, ho, h => by cases h; intro x hx; have := ho x hx; simp; omega
  | (a, b) :: l, o, o', B, hB, ho, h => by
    rw [lev] at h
    split at h
    · intro x hx
      have := lev_le (B := B + 1) (by omega) (bump_le hB ho) h x hx
      rw [List.length_cons]; omega
    · cases h
theorem lev_none {s : Int → Int → Bool} {v : Int → Int → Nat} : ∀ {l : List (Int × Int)} {o : List Int}, lev s v o l = none → l.all (fun x => s x.1 x.2) = false
  | [], o, h => by cases h
  | (a, b) :: l, o, h => by
    rw [lev] at h
    split at h
    · rw [List.all_cons, lev_none h, Bool.and_false]
    · rename_i hs; rw [List.all_cons]; simp [hs]
/-! ### The words of a wide number -/
def hiW (z : Int) : Int := z / 18446744073709551616
def loW (z : Int) : Int := z % 18446744073709551616
theorem W_range {z : Int} (h0 : 0 ≤ z) (h1 : z < 340282366920938463463374607431768211456) : (0 ≤ hiW z ∧ hiW z < 18446744073709551616) ∧ (0 ≤ loW z ∧ loW z < 18446744073709551616) ∧ hiW z * 18446744073709551616 + loW z = z := by
  unfold hiW loW; omega
theorem W_add (a b : Int) : loW (a + b) = (loW a + loW b) % 18446744073709551616 ∧ hiW (a + b) = hiW a + hiW b + (loW a + loW b) / 18446744073709551616 := by
  unfold hiW loW; omega
theorem W_sub (a b : Int) : loW (a - b) = (loW a - loW b) % 18446744073709551616 ∧ hiW (a - b) = hiW a - hiW b - (if loW a < loW b then 1 else 0) := by
  unfold hiW loW; split <;> omega
theorem W_inj {a b : Int} : (hiW a = hiW b ∧ loW a = loW b) ↔ a = b := by
  unfold hiW loW; omega
end Go.Proofs.YtodiipkedhfncaaGreatDoor.RptO
