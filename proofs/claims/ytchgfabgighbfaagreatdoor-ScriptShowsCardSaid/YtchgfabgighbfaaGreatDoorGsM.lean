/- The reference's guess, plainly: what words may mean; the right line of words is guessed. No program is in sight. -/
import Derived.Test.YtchgfabgighbfaaGreatDoorScrP
namespace Go.Proofs.YtchgfabgighbfaaGreatDoor.GsM
set_option linter.unusedVariables false
set_option linter.unusedSimpArgs false
open Go.Lib TxtM ScrM ScrP

def numStep (n : Int) (c : UInt8) : Int := if 48 ≤ c.toNat ∧ c.toNat ≤ 57 then 10 * n + (c.toNat : Int) - 48 else n
def numAbs (s : Wd) : Int := (s.take 15).foldl numStep 0
def numF (s : Wd) : Int := if s.head? = some 45 then -numAbs s else numAbs s
def bigStep (n : Nat) (c : UInt8) : Nat := (10 * n + c.toNat + 18446744073709551568) % 18446744073709551616
def bigF (s : Wd) : Nat := (s.take 20).foldl bigStep 0
theorem num_dig : ∀ (l : List UInt8) (a : Nat), l.all isD = true → l.foldl numStep (a : Int) = (digN a l : Int)
  | [], a, _ => rfl
  | c :: r, a, h => by
    rw [List.all_cons, Bool.and_eq_true] at h
    have hc := of_decide_eq_true h.1
    have e : numStep (a : Int) c = ((a * 10 + (c.toNat - 48) : Nat) : Int) := by
      unfold numStep
      rw [if_pos hc]
      omega
    rw [List.foldl_cons, e, num_dig r _ h.2]
    rfl
theorem big_dig : ∀ (l : List UInt8) (a : Nat), l.all isD = true → digN a l < 18446744073709551616 → l.foldl bigStep a = digN a l
  | [], a, _, _ => rfl
  | c :: r, a, h, hl => by
    rw [List.all_cons, Bool.and_eq_true] at h
    have hc := of_decide_eq_true h.1
    have hg : a * 10 + (c.toNat - 48) ≤ digN a (c :: r) := digN_ge r _
    have e : bigStep a c = a * 10 + (c.toNat - 48) := by
      unfold bigStep
      omega
    rw [List.foldl_cons, e]
    exact big_dig r _ h.2 hl
theorem dec_short : ∀ (k u : Nat), u < 10 ^ (k + 1) → (decDigits u).length ≤ k + 1
  | k, u, h => by
    by_cases h1 : u < 10
    · rw [decDigits, dif_pos h1]; simp
    · rw [decDigits, dif_neg h1, List.length_append]
      cases k with
      | zero => simp at h; omega
      | succ k =>
        have := dec_short k (u / 10) (by rw [Nat.div_lt_iff_lt_mul (by decide)]; rw [Nat.pow_succ] at h; exact h)
        simp; omega
theorem dec_head45 (u : Nat) : (decDigits u).head? ≠ some 45 := by
  obtain ⟨c, r, e, h1, h2⟩ := dec_head u
  rw [e]
  intro h
  obtain rfl : c = 45 := by simpa using h
  exact absurd h1 (by decide)
def small13 (n : Int) : Prop := -10000000000000 < n ∧ n < 10000000000000
theorem num_itoa {n : Int} (h : small13 n) : numF (itoa n) = n := by
  unfold small13 at h
  by_cases hn : n < 0
  · have e : itoa n = 45 :: decDigits n.natAbs := by unfold itoa; rw [if_pos hn]
    have hs := dec_short 12 n.natAbs (by omega)
    rw [e]
    unfold numF numAbs
    rw [if_pos (show (45 :: decDigits n.natAbs).head? = some 45 from rfl), List.take_of_length_le (by rw [List.length_cons]; omega), List.foldl_cons]
    have := num_dig (decDigits n.natAbs) 0 (dec_dig _).2
    rw [(dec_dig _).1] at this
    rw [show numStep 0 45 = ((0 : Nat) : Int) by unfold numStep; rw [if_neg (by decide)]; rfl, this]
    omega
  · have e : itoa n = decDigits n.toNat := by unfold itoa; rw [if_neg hn]
    have hs := dec_short 12 n.toNat (by omega)
    rw [e]
    unfold numF numAbs
    rw [if_neg (dec_head45 _), List.take_of_length_le (by omega)]
    have := num_dig (decDigits n.toNat) 0 (dec_dig _).2
    rw [(dec_dig _).1] at this
    show List.foldl numStep ((0 : Nat) : Int) _ = n
    rw [this]
    omega
theorem big_dec {u : Nat} (h : u < 18446744073709551616) : bigF (decDigits u) = u := by
  unfold bigF
  have hl : (decDigits u).length ≤ 20 := by rw [decDigits_length]; exact nDigits_le20 u h
  rw [List.take_of_length_le hl, big_dig _ 0 (dec_dig u).2 (by rw [(dec_dig u).1]; exact h), (dec_dig u).1]
theorem map_back {α : Type} {e : α → Wd} {f : Wd → α} : ∀ {l : List α}, (∀ x ∈ l, f (e x) = x) → (l.map e).map f = l
  | [], _ => rfl
  | x :: r, h => by rw [List.map_cons, List.map_cons, h x (by simp), map_back (fun y hy => h y (by simp [hy]))]
def firstF : List Int → Int × Int
  | [] => (0, 0)
  | [a] => (a, 0)
  | a :: b :: _ => (a, b)
def at0 (l : List Int) (k : Nat) : Int := (l ++ List.replicate 11 0).getD k 0
def cfF (l : List Int) : Cf := ⟨at0 l 0, at0 l 1, at0 l 2, at0 l 3, at0 l 4, at0 l 5, at0 l 6, at0 l 7, at0 l 8, at0 l 9, at0 l 10⟩
def slash : Wd := [47]
def putA (w : List Wd) : List Wd := w.takeWhile (· ≠ slash)
def putB (w : List Wd) : List Wd := (w.dropWhile (· ≠ slash)).tail
def idF : List Wd → Int
  | [] => 0
  | x :: _ => numF x
def putF (w : List Wd) : Ln := onlyAk ⟨1, idF (putA w), (putA w).tail.map numF, 0, 0⟩ ((putB w).map bigF)
def kepA (x : Wd) : Wd := x.takeWhile (· ≠ 58)
def kepB (x : Wd) : Wd := x.dropWhile (· ≠ 58)
def kepF (x : Wd) : Int × Int := (numF (kepA x), if kepB x = [] then 0 else numF (kepB x).tail)
def crashF (w : List Wd) : Ln := onlyKept (w.map kepF)
def guessR (w : Wd) (r : List Wd) : Ln :=
  if w = wBegin then onlyCf (cfF (r.map numF)) else if w = wPut then putF r else if w = wScore then onlyAk ⟨2, 0, r.map numF, 0, 0⟩ [] else if w = wWhy then onlyAk ⟨7, 0, r.map numF, 0, 0⟩ []
  else if w = wAlerts then onlyAk ⟨3, 0, [], (firstF (r.map numF)).1, (firstF (r.map numF)).2⟩ [] else if w = wAck then onlyAk ⟨4, 0, [], (firstF (r.map numF)).1, 0⟩ [] else if w = wStats then onlyAk ⟨5, 0, [], 0, 0⟩ [] else if w = wSnap then onlyAk ⟨6, 0, [], 0, 0⟩ []
  else if w = wStop then onlyN (firstF (r.map numF)).1 else if w = wCrash then crashF r else if w = wOpen then ln0 5 else ln0 0
def guessF : List Wd → Ln
  | [] => ln0 0
  | w :: r => guessR w r
theorem few_13 {n : Int} (h : few n) : small13 n := by unfold few at h; unfold small13; omega
theorem slash_ne (n : Int) : itoa n ≠ slash := fun h => by
  have : (47 : UInt8) ∈ itoa n := by rw [h]; simp [slash]
  exact absurd this (itoa_no n (by decide) (by decide))
theorem put_cut (l : List Int) (q : List Wd) : putA (l.map itoa ++ (slash :: q)) = l.map itoa ∧ putB (l.map itoa ++ (slash :: q)) = q := by
  unfold putA putB
  induction l with
  | nil => simp
  | cons x r ih =>
    have hx : itoa x ≠ slash := slash_ne x
    rw [List.map_cons, List.cons_append, List.takeWhile_cons, List.dropWhile_cons]
    simp only [decide_not, ne_eq] at ih ⊢
    rw [if_pos (by simpa using hx), if_pos (by simpa using hx), ih.1]
    exact ⟨rfl, ih.2⟩
theorem kep_cut (a r : Wd) (h : (58 : UInt8) ∉ a) : kepA (a ++ 58 :: r) = a ∧ kepB (a ++ 58 :: r) = 58 :: r := by
  unfold kepA kepB
  induction a with
  | nil => simp
  | cons x a ih =>
    have hx : x ≠ 58 := fun e => h (by rw [e]; simp)
    have ih := ih (fun hh => h (by simp [hh]))
    rw [List.cons_append, List.takeWhile_cons, List.dropWhile_cons]
    simp only [decide_not, ne_eq] at ih ⊢
    rw [if_pos (by simpa using hx), if_pos (by simpa using hx), ih.1]
    exact ⟨rfl, ih.2⟩
theorem kep_back {k : Int × Int} (h : (0 ≤ k.1 ∧ k.1 ≤ 4096) ∧ (0 ≤ k.2 ∧ k.2 ≤ 64)) : kepF (keptW k) = k := by
  unfold kepF keptW
  obtain ⟨h1, h2⟩ := kep_cut (itoa k.1) (itoa k.2) (itoa_no k.1 (by decide) (by decide))
  rw [h1, h2, if_neg (by simp), List.tail_cons, num_itoa (by unfold small13; omega), num_itoa (by unfold small13; omega)]
theorem cf_back (c : Cf) : cfF c.nums = c := by
  obtain ⟨⟩ := c
  rfl
theorem ask_sm {a : Ak} (h : askOk a) : ∀ x ∈ a.xs, numF (itoa x) = x := fun x hx => num_itoa (by
  have := h.2.2.2.2.2.1 x hx
  unfold small13; omega)
theorem guess_right {l : Ln} (h : Right l) : guessF (lineW l) = l := by
  cases h with
  | conf c hc =>
    rw [words_conf]
    show guessR wBegin _ = _
    unfold guessR
    rw [if_pos rfl, map_back, cf_back]
    intro x hx
    refine num_itoa ?_
    unfold confOk at hc
    unfold small13
    simp only [Cf.nums, List.mem_cons, List.not_mem_nil, or_false] at hx
    omega
  | ask a d ha h2 h3 h4 =>
    rw [words_ask]
    have hxs := ask_sm ha
    obtain ⟨k, i, xs, n, m⟩ := a
    have hid := num_itoa (few_13 ha.2.2.1)
    have hn := num_itoa (few_13 ha.2.2.2.1)
    have hm := num_itoa (few_13 ha.2.2.2.2.1)
    have h5 := ha.2.2.2.2.2.2
    dsimp only at hid hn hm h5 h3 hxs
    rcases ask_head ⟨k, i, xs, n, m⟩ d ha.1 with ⟨e1, f1⟩ | ⟨e1, f1⟩ | ⟨e1, f1⟩ | ⟨e1, f1⟩ | ⟨e1, f1⟩ | ⟨e1, f1⟩ | ⟨e1, f1⟩ <;> rw [f1] <;> dsimp only at e1 <;> subst e1 <;> simp at h5 h3
    · obtain ⟨g1, g2⟩ := put_cut (i :: xs) (d.map decDigits)
      show guessR wPut _ = _
      unfold guessR
      rw [if_neg (by decide), if_pos rfl]
      unfold putF
      show onlyAk ⟨1, idF (putA ((i :: xs).map itoa ++ slash :: d.map decDigits)), (putA ((i :: xs).map itoa ++ slash :: d.map decDigits)).tail.map numF, 0, 0⟩ ((putB ((i :: xs).map itoa ++ slash :: d.map decDigits)).map bigF) = _
      rw [g1, g2, map_back (fun x hx => big_dec (h4 x hx)), List.map_cons, List.tail_cons, map_back hxs]
      show onlyAk ⟨1, numF (itoa i), xs, 0, 0⟩ d = _
      rw [hid]
      obtain ⟨rfl, rfl⟩ := h5
      rfl
    · show guessR wScore _ = _
      unfold guessR
      rw [if_neg (by decide), if_neg (by decide), if_pos rfl, map_back hxs]
      obtain ⟨rfl, rfl, rfl⟩ := h5
      subst h3
      rfl
    · show guessR wWhy _ = _
      unfold guessR
      rw [if_neg (by decide), if_neg (by decide), if_neg (by decide), if_pos rfl, map_back hxs]
      obtain ⟨rfl, rfl, rfl⟩ := h5
      subst h3
      rfl
    · show guessR wAlerts _ = _
      unfold guessR
      rw [if_neg (by decide), if_neg (by decide), if_neg (by decide), if_neg (by decide), if_pos rfl]
      show onlyAk ⟨3, 0, [], numF (itoa n), numF (itoa m)⟩ [] = _
      rw [hn, hm]
      obtain ⟨rfl, rfl⟩ := h5
      subst h3
      rfl
    · show guessR wAck _ = _
      unfold guessR
      rw [if_neg (by decide), if_neg (by decide), if_neg (by decide), if_neg (by decide), if_neg (by decide), if_pos rfl]
      show onlyAk ⟨4, 0, [], numF (itoa n), 0⟩ [] = _
      rw [hn]
      obtain ⟨rfl, rfl, rfl⟩ := h5
      subst h3
      rfl
    · show guessR wStats _ = _
      unfold guessR
      rw [if_neg (by decide), if_neg (by decide), if_neg (by decide), if_neg (by decide), if_neg (by decide), if_neg (by decide), if_pos rfl]
      obtain ⟨rfl, rfl, rfl, rfl⟩ := h5
      subst h3
      rfl
    · show guessR wSnap _ = _
      unfold guessR
      rw [if_neg (by decide), if_neg (by decide), if_neg (by decide), if_neg (by decide), if_neg (by decide), if_neg (by decide), if_neg (by decide), if_pos rfl]
      obtain ⟨rfl, rfl, rfl, rfl⟩ := h5
      subst h3
      rfl
  | stop n h1 h2 =>
    rw [words_stop]
    show guessR wStop _ = _
    unfold guessR
    rw [if_neg (by decide), if_neg (by decide), if_neg (by decide), if_neg (by decide), if_neg (by decide), if_neg (by decide), if_neg (by decide), if_neg (by decide), if_pos rfl]
    show onlyN (numF (itoa n)) = _
    rw [num_itoa (by unfold small13; omega)]
  | crash k h1 h2 =>
    rw [words_crash]
    show guessR wCrash _ = _
    unfold guessR
    rw [if_neg (by decide), if_neg (by decide), if_neg (by decide), if_neg (by decide), if_neg (by decide), if_neg (by decide), if_neg (by decide), if_neg (by decide), if_neg (by decide), if_pos rfl]
    unfold crashF
    rw [map_back (fun x hx => kep_back (h1 x hx))]
  | opens => rfl
/-- what a piece of a text is read as: the guess, if it is right and its text is the piece -/
theorem read_yes' {p : Wd} (h1 : Right (guessF (splitC 32 p))) (h2 : lineT (guessF (splitC 32 p)) = p ++ [10]) : readW (splitC 32 p) = some (guessF (splitC 32 p)) := by
  have h3 : joinW (lineW (guessF (splitC 32 p))) = p := List.append_cancel_right h2
  have h4 := split_line (guessF (splitC 32 p))
  rw [h3] at h4
  have := read_line h1
  rwa [← h4] at this
theorem read_no' {p : Wd} (h : ¬ (Right (guessF (splitC 32 p)) ∧ lineT (guessF (splitC 32 p)) = p ++ [10])) : readW (splitC 32 p) = none := by
  cases hr : readW (splitC 32 p) with
  | none => rfl
  | some l =>
    obtain ⟨h1, h2⟩ := read_sound hr
    have h3 := guess_right h1
    rw [h2] at h3
    exact absurd ⟨by rw [h3]; exact h1, by rw [h3]; exact line_text hr⟩ h
theorem numStep_le {n : Int} {c : UInt8} (k : Nat) (h : 0 ≤ n ∧ n < 10 ^ k) : 0 ≤ numStep n c ∧ numStep n c < 10 ^ (k + 1) := by
  have e : (10 : Int) ^ (k + 1) = 10 ^ k * 10 := Int.pow_succ ..
  have hp : (0 : Int) ≤ 10 ^ k := by omega
  unfold numStep
  split <;> omega
theorem numFold_le : ∀ (l : List UInt8) (k : Nat) (n : Int), 0 ≤ n ∧ n < 10 ^ k → 0 ≤ l.foldl numStep n ∧ l.foldl numStep n < 10 ^ (k + l.length)
  | [], k, n, h => by simpa using h
  | c :: r, k, n, h => by
    have := numFold_le r (k + 1) _ (numStep_le (c := c) k h)
    rw [List.foldl_cons, List.length_cons, show k + (r.length + 1) = k + 1 + r.length by omega]
    exact this
theorem pow_mono10 {a b : Nat} (h : a ≤ b) : (10 : Int) ^ a ≤ 10 ^ b := by
  have := Nat.pow_le_pow_right (show 0 < 10 by decide) h
  exact_mod_cast this
theorem numTake_le (s : Wd) {k : Nat} (h : k ≤ 15) : 0 ≤ (s.take k).foldl numStep 0 ∧ (s.take k).foldl numStep 0 < 1000000000000000 := by
  obtain ⟨h1, h2⟩ := numFold_le (s.take k) 0 0 (by decide)
  refine ⟨h1, Int.lt_of_lt_of_le h2 ?_⟩
  have h3 : 0 + (s.take k).length ≤ 15 := by rw [List.length_take]; omega
  exact pow_mono10 h3
theorem num_le (s : Wd) : -1000000000000000 < numF s ∧ numF s < 1000000000000000 := by
  have := numTake_le s (Nat.le_refl 15)
  unfold numF numAbs
  split <;> omega
theorem bigStep_lt (n : Nat) (c : UInt8) : bigStep n c < 18446744073709551616 := Nat.mod_lt _ (by decide)
theorem bigFold_lt : ∀ (l : List UInt8) (n : Nat), n < 18446744073709551616 → l.foldl bigStep n < 18446744073709551616
  | [], n, h => h
  | c :: r, n, _ => by
    rw [List.foldl_cons]
    exact bigFold_lt r _ (bigStep_lt n c)
theorem big_lt (s : Wd) : bigF s < 18446744073709551616 := bigFold_lt _ _ (by decide)
end Go.Proofs.YtchgfabgighbfaaGreatDoor.GsM
