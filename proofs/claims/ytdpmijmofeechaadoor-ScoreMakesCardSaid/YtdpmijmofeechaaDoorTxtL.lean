/- Plain law for RatioTexts: what the document reads of a text is what ratio.Parse reads, and any ratio's text is read as it was. -/
import Derived.Test.YtdpmijmofeechaaDoorTextW
import Derived.Test.YtdpmijmofeechaaDoorTxtM
namespace Go.Proofs.YtdpmijmofeechaaDoor.TxtL
set_option linter.unusedVariables false
open Go.Lib BigM GcdM RatM Glob TextW TxtM

/-- the number of digits alone, up to ten of them -/
def countB (l : List UInt8) : Bool := !l.isEmpty && decide (l.length ≤ 10) && l.all isD
def countV (l : List UInt8) : Int := if countB l = true then ((digN 0 l : Nat) : Int) else 0
def minB (l : List UInt8) : Bool := !l.isEmpty && l.head? == some 45
def negT (l : List UInt8) : List UInt8 := if minB l = true then l.tail else l
def numV (l : List UInt8) : Int := if minB l = true then -countV (negT l) else countV (negT l)
def rP (l : List UInt8) : Int := numV (cutT l)
def rQ (l : List UInt8) : Int := if cutB l = true then countV (cutL l) else 1
def rOk (l : List UInt8) : Bool := (!cutB l || countB (cutL l)) && countB (negT (cutT l)) && (textR (rP l) (rQ l) == l)
def rparse (l : List UInt8) : Int × Int × Int := if rOk l = true then (rP l, rQ l, 0) else (0, 0, 30)

theorem nDigits_le : ∀ (k u : Nat), u < 10 ^ (k + 1) → nDigits u ≤ k + 1
  | 0, u, h => by rw [nDigits_small (by simpa using h)]; omega
  | k + 1, u, h => by
    by_cases hu : u < 10
    · rw [nDigits_small hu]; omega
    · rw [nDigits_big hu]
      have := nDigits_le k (u / 10) (by rw [Nat.pow_succ] at h; omega)
      omega
theorem count_dec (u : Nat) (h : u < 10000000000) : countB (decDigits u) = true ∧ countV (decDigits u) = (u : Int) := by
  have hb : countB (decDigits u) = true := by
    unfold countB
    have h1 : (decDigits u).isEmpty = false := by
      cases he : decDigits u with
      | nil => exact absurd he (dec_ne u)
      | cons _ _ => rfl
    have h2 : (decDigits u).length ≤ 10 := by rw [decDigits_length]; exact nDigits_le 9 u (by simpa using h)
    rw [h1, (dec_dig u).2, decide_eq_true h2]; rfl
  refine ⟨hb, ?_⟩
  unfold countV
  rw [if_pos hb, (dec_dig u).1]
theorem min_dec (u : Nat) : minB (decDigits u) = false := by
  obtain ⟨c, r, e, h⟩ := dec_head u
  rw [e]
  unfold minB
  have : c ≠ 45 := fun e2 => by rw [e2] at h; have : (45 : UInt8).toNat = 45 := rfl; omega
  simp [this]
theorem num_itoa (n : Int) (h1 : -10000000000 < n) (h2 : n < 10000000000) : countB (negT (itoa n)) = true ∧ numV (itoa n) = n := by
  by_cases hn : n < 0
  · have e : itoa n = 45 :: decDigits n.natAbs := by unfold itoa; rw [if_pos hn]
    have hm : minB (45 :: decDigits n.natAbs) = true := rfl
    have ht : negT (45 :: decDigits n.natAbs) = decDigits n.natAbs := by unfold negT; rw [if_pos hm]; rfl
    obtain ⟨c1, c2⟩ := count_dec n.natAbs (by omega)
    rw [e]
    unfold numV
    rw [if_pos hm, ht, c2]
    exact ⟨c1, by omega⟩
  · have e : itoa n = decDigits n.toNat := by unfold itoa; rw [if_neg hn]
    have hm := min_dec n.toNat
    have ht : negT (decDigits n.toNat) = decDigits n.toNat := by unfold negT; rw [if_neg (by rw [hm]; decide)]
    obtain ⟨c1, c2⟩ := count_dec n.toNat (by omega)
    rw [e]
    unfold numV
    rw [if_neg (by rw [hm]; decide), ht, c2]
    exact ⟨c1, by omega⟩
theorem count_itoa (n : Int) (h1 : 0 ≤ n) (h2 : n < 10000000000) : countB (itoa n) = true ∧ countV (itoa n) = n := by
  have e : itoa n = decDigits n.toNat := by unfold itoa; rw [if_neg (by omega)]
  rw [e]
  obtain ⟨c1, c2⟩ := count_dec n.toNat (by omega)
  exact ⟨c1, by rw [c2]; omega⟩
theorem part_itoa (n : Int) (h1 : -9223372036854775808 ≤ n) (h2 : n ≤ 9223372036854775807) : partOk (itoa n) = true ∧ atoiV (itoa n) = n := by
  have e := atoi_itoa n h1 h2
  have ev : atoiV (itoa n) = n := by unfold atoiV; rw [e]
  have eo : atoiOk (itoa n) = true := by unfold atoiOk; rw [e]
  exact ⟨by rw [partOk_yes eo, ev]; simp, ev⟩
theorem part_true {l : List UInt8} (h : partOk l = true) : itoa (atoiV l) = l := by
  unfold partOk at h
  rw [Bool.and_eq_true] at h
  simpa using h.2
theorem no47 (n : Int) : (47 : UInt8) ∉ itoa n := itoa_no (by decide) (by decide)
theorem cut3 (l : List UInt8) : cutT l = (cutAt 47 l).1 ∧ cutL l = (cutAt 47 l).2.1 ∧ cutB l = (cutAt 47 l).2.2 := by
  unfold cutT cutL cutB
  rw [cut_at]; exact ⟨rfl, rfl, rfl⟩
theorem cut_one (n : Int) : cutT (itoa n) = itoa n ∧ cutB (itoa n) = false := by
  obtain ⟨e1, e2, e3⟩ := cut3 (itoa n)
  rw [e1, e3, cutAt_no (no47 n)]; exact ⟨rfl, rfl⟩
theorem cut_two (n : Int) (m : List UInt8) : cutT (itoa n ++ 47 :: m) = itoa n ∧ cutL (itoa n ++ 47 :: m) = m ∧ cutB (itoa n ++ 47 :: m) = true := by
  obtain ⟨e1, e2, e3⟩ := cut3 (itoa n ++ 47 :: m)
  rw [e1, e2, e3, cutAt_app m (no47 n)]; exact ⟨rfl, rfl, rfl⟩
/-- any ratio's text: it is read as it was, by both -/
theorem text_read {p q : Int} (h : isR p q = true) : parseR (textR p q) = (p, q, 0) ∧ rP (textR p q) = p ∧ rQ (textR p q) = q ∧ rOk (textR p q) = true := by
  obtain ⟨q1, q2, p1, p2, _⟩ := isR_true h
  obtain ⟨n1, n2⟩ := num_itoa p (by omega) (by omega)
  obtain ⟨k1, k2⟩ := part_itoa p (by omega) (by omega)
  by_cases hq : q = 1
  · subst hq
    have ht := textR_one h
    obtain ⟨c1, c2⟩ := cut_one p
    have eP : rP (textR p 1) = p := by unfold rP; rw [ht, c1, n2]
    have eQ : rQ (textR p 1) = 1 := by unfold rQ; rw [ht, if_neg (by rw [c2]; decide)]
    have eP2 : parP (itoa p) = p := by unfold parP; rw [c1, k2]
    refine ⟨?_, eP, eQ, ?_⟩
    · rw [ht, parseR_one c2 (by rw [c1]; exact k1) (by rw [eP2]; exact h), eP2]
    · unfold rOk
      rw [eP, eQ, ht, c1, c2, n1]
      simp
  · have ht := textR_two h hq
    obtain ⟨c1, c2, c3⟩ := cut_two p (itoa q)
    obtain ⟨m1, m2⟩ := count_itoa q (by omega) (by omega)
    obtain ⟨j1, j2⟩ := part_itoa q (by omega) (by omega)
    have eP : rP (textR p q) = p := by unfold rP; rw [ht, c1, n2]
    have eQ : rQ (textR p q) = q := by unfold rQ; rw [ht, if_pos c3, c2, m2]
    have eP2 : parP (itoa p ++ 47 :: itoa q) = p := by unfold parP; rw [c1, k2]
    refine ⟨?_, eP, eQ, ?_⟩
    · rw [ht, parseR_two c3 (by rw [c1]; exact k1) (by rw [c2]; exact j1) (by rw [c2, j2]; simpa using hq) (by rw [eP2, c2, j2]; exact h), eP2, c2, j2]
    · unfold rOk
      rw [eP, eQ, ht, c1, c2, c3, n1, m1]
      simp
/-- a text that is read is the text of what was read -/
theorem read_text {l : List UInt8} (h : parOk l = true) : isR (parP l) (parQ l) = true ∧ textR (parP l) (parQ l) = l := by
  unfold parOk at h
  rw [Bool.and_eq_true, Bool.and_eq_true] at h
  obtain ⟨⟨h1, h2⟩, h3⟩ := h
  refine ⟨h3, ?_⟩
  obtain ⟨e1, e2, e3⟩ := cut3 l
  cases hb : cutB l
  · have hq : parQ l = 1 := by unfold parQ; rw [if_neg (by rw [hb]; decide)]
    rw [hq] at h3 ⊢
    rw [textR_one h3]
    unfold parP
    rw [part_true h1, e1]
    exact (cutAt_false (by rw [← e3]; exact hb)).1
  · have hq : parQ l = atoiV (cutL l) := by unfold parQ; rw [if_pos hb]
    rw [hb] at h2
    simp only [Bool.not_true, Bool.false_or, Bool.and_eq_true, Bool.not_eq_true', beq_eq_false_iff_ne] at h2
    rw [hq] at h3 ⊢
    rw [textR_two h3 h2.2]
    unfold parP
    rw [part_true h1, part_true h2.1, e1, e2]
    exact (cutAt_true (by rw [← e3]; exact hb)).symm
theorem rOk_isR {l : List UInt8} (h : rOk l = true) : isR (rP l) (rQ l) = true ∧ textR (rP l) (rQ l) = l := by
  unfold rOk at h
  rw [Bool.and_eq_true, Bool.and_eq_true] at h
  obtain ⟨⟨_, h2⟩, h3⟩ := h
  have h3 : textR (rP l) (rQ l) = l := by simpa using h3
  refine ⟨?_, h3⟩
  cases hr : isR (rP l) (rQ l)
  · rw [textR_no hr] at h3
    subst h3
    exact absurd h2 (by decide)
  · rfl
theorem rparse_eq (l : List UInt8) : rparse l = parseR l := by
  cases h : parOk l
  · rw [parseR_no h]
    cases h2 : rOk l
    · unfold rparse; rw [h2]; rfl
    · obtain ⟨i1, i2⟩ := rOk_isR h2
      have := (text_read i1).1
      rw [i2, parseR_no h] at this
      simp only [Prod.mk.injEq] at this
      omega
  · obtain ⟨i1, i2⟩ := read_text h
    obtain ⟨t1, t2, t3, t4⟩ := text_read i1
    rw [i2] at t1 t2 t3 t4
    unfold rparse
    rw [if_pos t4, t2, t3, t1]
theorem parseR_ok {l : List UInt8} (h : (parseR l).2.2 = 0) : isR (parseR l).1 (parseR l).2.1 = true ∧ textR (parseR l).1 (parseR l).2.1 = l := by
  cases hk : parOk l
  · rw [parseR_no hk] at h
    exact absurd h (by decide)
  · have e : parseR l = (parP l, parQ l, 0) := by unfold parseR; rw [if_pos hk]
    rw [e]
    exact read_text hk
theorem parse_nil : parseR [] = (0, 0, 30) := by
  refine parseR_no ?_
  cases h : parOk []
  · rfl
  · obtain ⟨i1, i2⟩ := read_text h
    have hne : textR (parP []) (parQ []) ≠ [] := by
      unfold textR
      rw [if_pos i1]
      split
      · exact itoa_ne _
      · simp
    exact absurd i2 hne
end Go.Proofs.YtdpmijmofeechaaDoor.TxtL
