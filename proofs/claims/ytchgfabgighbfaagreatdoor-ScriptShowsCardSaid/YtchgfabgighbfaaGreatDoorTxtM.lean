/- Plain laws on numbers as texts: a numeral is read as it was, and holds digits alone; a text cut at a byte. No program is in sight. -/
import Derived.Lib.ItoaLen
import Derived.Lib.AtoiAllCases
import Derived.Lib.IndexMore
namespace Go.Proofs.YtchgfabgighbfaaGreatDoor.TxtM
open Go.Lib
set_option linter.unusedVariables false

/-- is it a digit? -/
def isD (c : UInt8) : Bool := decide (48 ≤ c.toNat ∧ c.toNat ≤ 57)
/-- the number that digits tell, behind an earlier one -/
def digN : Nat → List UInt8 → Nat
  | a, [] => a
  | a, c :: r => digN (a * 10 + (c.toNat - 48)) r
theorem digN_append : ∀ (l m : List UInt8) (a : Nat), digN a (l ++ m) = digN (digN a l) m
  | [], _, _ => rfl
  | _ :: r, m, a => digN_append r m _
theorem digN_ge : ∀ (l : List UInt8) (a : Nat), a ≤ digN a l
  | [], a => Nat.le_refl a
  | c :: r, a => by
    have := digN_ge r (a * 10 + (c.toNat - 48))
    show a ≤ digN (a * 10 + (c.toNat - 48)) r
    omega
theorem dig_one (u : Nat) (h : u < 10) : (UInt8.ofNat (48 + u)).toNat = 48 + u := by
  rw [UInt8.toNat_ofNat']
  exact Nat.mod_eq_of_lt (by omega)
theorem isD_one (u : Nat) (h : u < 10) : isD (UInt8.ofNat (48 + u)) = true := by
  unfold isD; rw [dig_one u h]; exact decide_eq_true (by omega)
theorem dec_dig (u : Nat) : digN 0 (decDigits u) = u ∧ (decDigits u).all isD = true := by
  induction u using Nat.strongRecOn with
  | _ u ih =>
    by_cases h : u < 10
    · rw [decDigits, dif_pos h]
      refine ⟨?_, by rw [List.all_cons, isD_one u h]; rfl⟩
      show 0 * 10 + ((UInt8.ofNat (48 + u)).toNat - 48) = u
      rw [dig_one u h]; omega
    · obtain ⟨i1, i2⟩ := ih (u / 10) (by omega)
      rw [decDigits, dif_neg h]
      refine ⟨?_, by rw [List.all_append, i2, List.all_cons, isD_one (u % 10) (by omega)]; rfl⟩
      rw [digN_append, i1]
      show u / 10 * 10 + ((UInt8.ofNat (48 + u % 10)).toNat - 48) = u
      rw [dig_one _ (by omega)]; omega
theorem dec_ne (u : Nat) : decDigits u ≠ [] := by
  intro h
  have := decDigits_length u
  rw [h] at this
  have := nDigits_pos u
  simp only [List.length_nil] at *
  omega
theorem dec_mem {u : Nat} {c : UInt8} (h : c ∈ decDigits u) : 48 ≤ c.toNat ∧ c.toNat ≤ 57 := by
  have := List.all_eq_true.1 (dec_dig u).2 c h
  unfold isD at this
  exact of_decide_eq_true this
theorem dec_head (u : Nat) : ∃ c r, decDigits u = c :: r ∧ 48 ≤ c.toNat ∧ c.toNat ≤ 57 := by
  cases h : decDigits u with
  | nil => exact absurd h (dec_ne u)
  | cons c r => exact ⟨c, r, rfl, dec_mem (u := u) (by rw [h]; exact List.mem_cons_self ..)⟩
set_option linter.unusedVariables false in
theorem parse_dig : ∀ (l : List UInt8) (a : Nat), l.all isD = true → digN a l < 18446744073709551616 → parseUint10 a l = .ok (digN a l)
  | [], a, _, _ => rfl
  | c :: r, a, h, hb => by
    rw [List.all_cons, Bool.and_eq_true] at h
    have hc : 48 ≤ c.toNat ∧ c.toNat ≤ 57 := of_decide_eq_true h.1
    have hb' : digN (a * 10 + (c.toNat - 48)) r < 18446744073709551616 := hb
    have hge := digN_ge r (a * 10 + (c.toNat - 48))
    have ih := parse_dig r (a * 10 + (c.toNat - 48)) h.2 hb'
    unfold parseUint10
    rw [if_pos hc, if_neg (by omega), if_neg (by omega)]
    exact ih
theorem parseMag_dec (u : Nat) (h : u < 18446744073709551616) : parseMag (decDigits u) = .ok u := by
  unfold parseMag
  rw [if_neg (dec_ne u), parse_dig _ 0 (dec_dig u).2 (by rw [(dec_dig u).1]; exact h), (dec_dig u).1]
/-- a numeral is read as it was -/
theorem atoi_itoa (n : Int) (h1 : -9223372036854775808 ≤ n) (h2 : n ≤ 9223372036854775807) : atoiAll (itoa n) = .ok n := by
  by_cases hn : n < 0
  · unfold itoa
    rw [if_pos hn, atoiAll_minus, parseMag_dec _ (by omega)]
    show (if 9223372036854775808 < n.natAbs then NumEnd.range else NumEnd.ok (-((n.natAbs : Nat) : Int))) = _
    rw [if_neg (by omega)]
    congr 1; omega
  · unfold itoa
    rw [if_neg hn]
    obtain ⟨c, r, e, hc⟩ := dec_head n.toNat
    have hp := parseMag_dec n.toNat (by omega)
    rw [e] at hp ⊢
    rw [atoiAll_plain c r (by omega) (by omega), hp]
    show (if 9223372036854775808 ≤ n.toNat then NumEnd.range else NumEnd.ok ((n.toNat : Nat) : Int)) = _
    rw [if_neg (by omega)]
    congr 1; omega
theorem itoa_mem {n : Int} {c : UInt8} (h : c ∈ itoa n) : c.toNat = 45 ∨ (48 ≤ c.toNat ∧ c.toNat ≤ 57) := by
  unfold itoa at h
  split at h
  · rcases List.mem_cons.1 h with rfl | h
    · exact .inl rfl
    · exact .inr (dec_mem h)
  · exact .inr (dec_mem h)
theorem itoa_ne (n : Int) : itoa n ≠ [] := by
  unfold itoa
  split
  · simp
  · exact dec_ne _
/-- no byte that is neither a sign nor a digit is in a numeral -/
theorem itoa_no {n : Int} {c : UInt8} (h : c.toNat ≠ 45) (h2 : ¬ (48 ≤ c.toNat ∧ c.toNat ≤ 57)) : c ∉ itoa n := fun hm => by
  rcases itoa_mem hm with h' | h'
  · exact h h'
  · exact h2 h'
theorem itoa_inj {a b : Int} (ha : -9223372036854775808 ≤ a ∧ a ≤ 9223372036854775807) (hb : -9223372036854775808 ≤ b ∧ b ≤ 9223372036854775807) (h : itoa a = itoa b) : a = b := by
  have h1 := atoi_itoa a ha.1 ha.2
  rw [h, atoi_itoa b hb.1 hb.2] at h1
  injection h1 with h1
  exact h1.symm

/-- a text cut at the first byte of a kind -/
def cutAt (c : UInt8) : List UInt8 → List UInt8 × List UInt8 × Bool
  | [] => ([], [], false)
  | x :: r => if x = c then ([], r, true) else (x :: (cutAt c r).1, (cutAt c r).2.1, (cutAt c r).2.2)
theorem index_cons (c x : UInt8) (r : List UInt8) : index (x :: r) [c] = if x = c then 0 else if index r [c] == -1 then -1 else index r [c] + 1 := by
  show (if ([c] : List UInt8).isPrefixOf (x :: r) then (0 : Int) else if index r [c] == -1 then -1 else index r [c] + 1) = _
  by_cases h : x = c
  · rw [if_pos h, if_pos (by subst h; simp)]
  · rw [if_neg h, if_neg (by simp; exact fun e => h e.symm)]
theorem cut_at (c : UInt8) : ∀ l : List UInt8, Lib.cut l [c] = cutAt c l
  | [] => by
    have e : index [] [c] = -1 := rfl
    unfold Lib.cut cutAt; rw [e, if_neg (by decide)]
  | x :: r => by
    have ih := cut_at c r
    have hg := index_ge r [c]
    unfold Lib.cut cutAt
    rw [index_cons]
    by_cases h : x = c
    · rw [if_pos h, if_pos h, if_pos (by decide)]; simp
    · rw [if_neg h, if_neg h, ← ih]
      unfold Lib.cut
      by_cases h1 : index r [c] = -1
      · have e : (if index r [c] == -1 then (-1 : Int) else index r [c] + 1) = -1 := by rw [h1]; rfl
        rw [e, h1, if_neg (by decide), if_neg (by decide)]
      · have e : (if index r [c] == -1 then (-1 : Int) else index r [c] + 1) = index r [c] + 1 := if_neg (by simpa using h1)
        rw [e, if_pos (by omega), if_pos (by omega)]
        have e : (index r [c] + 1).toNat = (index r [c]).toNat + 1 := by omega
        rw [e]
        simp
theorem cutAt_app {c : UInt8} : ∀ {a : List UInt8} (b : List UInt8), c ∉ a → cutAt c (a ++ c :: b) = (a, b, true)
  | [], b, _ => by show (if c = c then _ else _) = _; rw [if_pos rfl]
  | x :: a, b, h => by
    have h1 : x ≠ c := fun e => h (by rw [e]; exact List.mem_cons_self ..)
    have h2 : c ∉ a := fun e => h (List.mem_cons_of_mem _ e)
    show (if x = c then _ else _) = _
    rw [if_neg h1]
    show (x :: (cutAt c (a ++ c :: b)).1, (cutAt c (a ++ c :: b)).2.1, (cutAt c (a ++ c :: b)).2.2) = _
    rw [cutAt_app b h2]
theorem cutAt_no {c : UInt8} : ∀ {a : List UInt8}, c ∉ a → cutAt c a = (a, [], false)
  | [], _ => rfl
  | x :: a, h => by
    have h1 : x ≠ c := fun e => h (by rw [e]; exact List.mem_cons_self ..)
    have h2 : c ∉ a := fun e => h (List.mem_cons_of_mem _ e)
    show (if x = c then _ else _) = _
    rw [if_neg h1, cutAt_no h2]
theorem cutAt_true {c : UInt8} : ∀ {l : List UInt8}, (cutAt c l).2.2 = true → l = (cutAt c l).1 ++ c :: (cutAt c l).2.1
  | [], h => by cases h
  | x :: r, h => by
    unfold cutAt at h ⊢
    by_cases h1 : x = c
    · rw [if_pos h1, h1]; rfl
    · rw [if_neg h1] at h ⊢
      have := cutAt_true (l := r) h
      show x :: r = x :: ((cutAt c r).1 ++ c :: (cutAt c r).2.1)
      rw [← this]
theorem cutAt_false {c : UInt8} : ∀ {l : List UInt8}, (cutAt c l).2.2 = false → (cutAt c l).1 = l ∧ c ∉ l
  | [], _ => ⟨rfl, by simp⟩
  | x :: r, h => by
    unfold cutAt at h ⊢
    by_cases h1 : x = c
    · rw [if_pos h1] at h; cases h
    · rw [if_neg h1] at h ⊢
      obtain ⟨i1, i2⟩ := cutAt_false (l := r) h
      refine ⟨by show x :: (cutAt c r).1 = _; rw [i1], fun hm => ?_⟩
      rcases List.mem_cons.1 hm with e | e
      · exact h1 e.symm
      · exact i2 e
theorem cutAt_low {c : UInt8} : ∀ {l : List UInt8}, (cutAt c l).2.2 = false → (cutAt c l).2.1 = []
  | [], _ => rfl
  | x :: r, h => by
    unfold cutAt at h ⊢
    by_cases h1 : x = c
    · rw [if_pos h1] at h; cases h
    · rw [if_neg h1] at h ⊢
      exact cutAt_low (l := r) h
theorem cutAt_notin {c : UInt8} : ∀ {l : List UInt8}, c ∉ (cutAt c l).1
  | [] => by simp [cutAt]
  | x :: r => by
    unfold cutAt
    by_cases h1 : x = c
    · rw [if_pos h1]; simp
    · rw [if_neg h1]
      show c ∉ x :: (cutAt c r).1
      intro hm
      rcases List.mem_cons.1 hm with e | e
      · exact h1 e.symm
      · exact cutAt_notin e
end Go.Proofs.YtchgfabgighbfaaGreatDoor.TxtM
