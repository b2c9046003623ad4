/- The reference's reader of a tree's text, plainly. -/
import Derived.Test.YtmmgfelifmdnbaaDoorPrsD
import Derived.Test.YtmmgfelifmdnbaaDoorDigW
import Derived.Test.YtmmgfelifmdnbaaDoorKeeW
import Derived.Test.YtmmgfelifmdnbaaDoorPrsW
import Derived.Test.YtmmgfelifmdnbaaDoorTexW
import Derived.Test.YtmmgfelifmdnbaaDoorShpR
import Derived.Test.YtmmgfelifmdnbaaDoorLivW
namespace Go.Proofs.YtmmgfelifmdnbaaDoor.RfpM
set_option linter.unusedVariables false
open Go.RowKit Go.Lib ShpM TxtM GlbS WrtM RdrW PrsM PrsC PrsD ParW TexW

/-- the digits at a place, 13 at most -/
def digR (s : List UInt8) (a : Nat) : List UInt8 := (digP (s.drop a)).take 13
def fromR (s : List UInt8) (a : Nat) : Nat := if s[a]? = some 45 then a + 1 else a
def numR (s : List UInt8) (a : Nat) : Int × Nat :=
  if (digR s (fromR s a)).length = 0 then (0, a) else (if a < fromR s a then -(digN 0 (digR s (fromR s a)) : Int) else (digN 0 (digR s (fromR s a)) : Int), fromR s a + (digR s (fromR s a)).length)
theorem from_le (s : List UInt8) (a : Nat) : a ≤ fromR s a ∧ fromR s a ≤ a + 1 := by unfold fromR; split <;> omega
theorem from_in (s : List UInt8) (a : Nat) (h : a ≤ s.length) : fromR s a ≤ s.length := by
  unfold fromR; split
  · rename_i h1; have := (List.getElem?_eq_some_iff.1 h1).1; omega
  · exact h
theorem digP_le (s : List UInt8) : (digP s).length ≤ s.length := by
  have := congrArg List.length (digP_pre s)
  rw [List.length_take] at this
  omega
theorem digP_get (s : List UInt8) {k : Nat} (h : k < (digP s).length) : (digP s)[k]? = s[k]? := by
  have e : (s.take (digP s).length)[k]? = (digP s)[k]? := by rw [digP_pre]
  rw [← e, List.getElem?_take_of_lt h]
theorem digR_le (s : List UInt8) (a : Nat) : (digR s a).length ≤ 13 ∧ (0 < (digR s a).length → a + (digR s a).length ≤ s.length) := by
  unfold digR
  have := digP_le (s.drop a)
  rw [List.length_drop] at this
  rw [List.length_take]
  omega
theorem digN_lt : ∀ (l : List UInt8) (a m : Nat), l.all isD = true → a < 10 ^ m → digN a l < 10 ^ (m + l.length)
  | [], a, m, _, h => h
  | c :: r, a, m, hl, h => by
    simp only [List.all_cons, Bool.and_eq_true] at hl
    have hc : 48 ≤ c.toNat ∧ c.toNat ≤ 57 := of_decide_eq_true hl.1
    have hp : 10 ^ (m + 1) = 10 ^ m * 10 := Nat.pow_succ ..
    have h2 : a * 10 + (c.toNat - 48) < 10 ^ (m + 1) := by
      rw [hp]; generalize 10 ^ m = P at h ⊢; omega
    have := digN_lt r (a * 10 + (c.toNat - 48)) (m + 1) hl.2 h2
    show digN (a * 10 + (c.toNat - 48)) r < _
    rw [List.length_cons]
    rw [show m + (r.length + 1) = m + 1 + r.length by omega]
    exact this
theorem digP_all : ∀ s : List UInt8, (digP s).all isD = true
  | [] => rfl
  | c :: r => by
    unfold digP
    split
    · rename_i h; rw [List.all_cons, h, digP_all r]; rfl
    · rfl
theorem digR_all (s : List UInt8) (a : Nat) : (digR s a).all isD = true := by
  unfold digR
  rw [List.all_eq_true]
  intro x hx
  exact List.all_eq_true.1 (digP_all _) x (List.mem_of_mem_take hx)
theorem pow13 {k : Nat} (h : k ≤ 13) : 10 ^ k ≤ 10000000000000 := Nat.le_trans (Nat.pow_le_pow_right (by omega) h) (by decide)
theorem digR_lt (s : List UInt8) (a k : Nat) : digN 0 ((digR s a).take k) < 10000000000000 := by
  have h1 := digN_lt ((digR s a).take k) 0 0 (by rw [List.all_eq_true]; intro x hx; exact List.all_eq_true.1 (digR_all s a) x (List.mem_of_mem_take hx)) (by decide)
  have h2 := (digR_le s a).1
  have h3 : ((digR s a).take k).length ≤ 13 := by rw [List.length_take]; omega
  have := pow13 h3
  rw [Nat.zero_add] at h1
  omega
theorem digR_next {s : List UInt8} {a k : Nat} (h : k < (digR s a).length) : ∃ c, s[a + k]? = some c ∧ isD c = true ∧ k < 13 ∧ digN 0 ((digR s a).take (k + 1)) = digN 0 ((digR s a).take k) * 10 + (c.toNat - 48) := by
  have h13 := (digR_le s a).1
  have hk : k < (digP (s.drop a)).length := by unfold digR at h; rw [List.length_take] at h; omega
  obtain ⟨c, hc, hd⟩ := (digP_at (s.drop a) k).1 hk
  have hg : (digR s a)[k]? = some c := by unfold digR; rw [List.getElem?_take_of_lt (by omega), digP_get _ hk, hc]
  rw [List.getElem?_drop] at hc
  refine ⟨c, hc, hd, by omega, ?_⟩
  rw [List.take_add_one, hg, digN_append]
  rfl
theorem digR_end {s : List UInt8} {a k : Nat} (h : k = (digR s a).length) : k = 13 ∨ s.length ≤ a + k ∨ ∃ c, s[a + k]? = some c ∧ isD c = false := by
  by_cases hk : (digP (s.drop a)).length < 13
  · have he : k = (digP (s.drop a)).length := by unfold digR at h; rw [List.length_take] at h; omega
    rcases (digP_at (s.drop a) k).2 he with h1 | ⟨c, h1, h2⟩
    · rw [List.length_drop] at h1; exact .inr (.inl (by omega))
    · rw [List.getElem?_drop] at h1; exact .inr (.inr ⟨c, h1, h2⟩)
  · left; unfold digR at h; rw [List.length_take] at h; omega
theorem numR_le (s : List UInt8) (a : Nat) : a ≤ (numR s a).2 ∧ ((numR s a).2 ≠ a → (numR s a).2 ≤ s.length) ∧ -10000000000000 ≤ (numR s a).1 ∧ (numR s a).1 ≤ 10000000000000 := by
  have h1 := from_le s a
  have h2 := digR_le s (fromR s a)
  have h3 := digR_lt s (fromR s a) (digR s (fromR s a)).length
  rw [List.take_length] at h3
  unfold numR
  split
  · exact ⟨Nat.le_refl _, fun h => absurd rfl h, by dsimp only; omega, by dsimp only; omega⟩
  · refine ⟨by dsimp only; omega, fun _ => by dsimp only; omega, ?_⟩
    dsimp only
    split <;> omega
theorem drop_at {s p r : List UInt8} {a : Nat} (h : s.drop a = p ++ r) : s.drop (a + p.length) = r := by
  rw [← List.drop_drop, h, List.drop_left]
theorem get_at {s : List UInt8} {a : Nat} {c : UInt8} {r : List UInt8} (h : s.drop a = c :: r) : s[a]? = some c := by
  have : (s.drop a)[0]? = some c := by rw [h]; rfl
  rw [List.getElem?_drop] at this
  exact this
theorem dec_short : ∀ (k u : Nat), u < 10 ^ (k + 1) → (decDigits u).length ≤ k + 1
  | 0, u, h => by rw [decDigits, dif_pos (by simpa using h)]; simp
  | k + 1, u, h => by
    rw [decDigits]
    split
    · simp
    · have hp : 10 ^ (k + 1 + 1) = 10 ^ (k + 1) * 10 := Nat.pow_succ ..
      have := dec_short k (u / 10) (by omega)
      rw [List.length_append, List.length_cons, List.length_nil]; omega
theorem digR_take {s : List UInt8} {a u : Nat} {r : List UInt8} (h : s.drop a = decDigits u ++ r) (hr : Stop r) (hu : u < 10000000000000) : digR s a = decDigits u := by
  unfold digR
  rw [h, digP_app _ _ (dec_dig u).2 hr]
  exact List.take_of_length_le (dec_short 12 u (by omega))
theorem numR_take {s : List UInt8} {a : Nat} {n : Int} {r : List UInt8} (h : s.drop a = itoa n ++ r) (hr : Stop r) (h1 : -1000000000000 ≤ n) (h2 : n ≤ 1000000000000) : numR s a = (n, a + (itoa n).length) := by
  unfold itoa at h ⊢
  split at h
  · rename_i hn
    rw [if_pos hn]
    have hf : fromR s a = a + 1 := by unfold fromR; rw [if_pos (get_at h)]
    have hd := digR_take (a := a + 1) (drop_at (p := [45]) h) hr (by omega)
    have hl := dec_ne n.natAbs
    unfold numR
    rw [hf, hd, if_neg (by rw [List.length_eq_zero_iff]; exact hl), if_pos (by omega), (dec_dig _).1, List.length_cons]
    congr 1 <;> omega
  · rename_i hn
    rw [if_neg hn]
    obtain ⟨c, t, e, hc1, hc2⟩ := dec_head n.toNat
    have hf : fromR s a = a := by
      unfold fromR
      rw [if_neg]
      rw [e] at h
      rw [get_at h]
      intro e2
      obtain rfl := Option.some.inj e2
      revert hc1; decide
    have hd := digR_take h hr (by omega)
    have hl := dec_ne n.toNat
    unfold numR
    rw [hf, hd, if_neg (by rw [List.length_eq_zero_iff]; exact hl), if_neg (by omega), (dec_dig _).1]
    congr 1; omega
theorem numR_none {s : List UInt8} {a : Nat} {c : UInt8} {r : List UInt8} (h : s.drop a = c :: r) (h1 : isD c = false) (h2 : c ≠ 45) : numR s a = (0, a) := by
  have hf : fromR s a = a := by
    unfold fromR
    rw [if_neg]
    rw [get_at h]
    intro e2
    exact h2 (Option.some.inj e2)
  unfold numR
  rw [hf, if_pos]
  unfold digR
  rw [h]
  unfold digP
  rw [if_neg (by rw [h1]; decide)]
  rfl
/-- the numbers that stand ahead of the sign -/
def coefR (s : List UInt8) : Nat → Nat → List Int → List Int × Nat
  | 0, i, c => (c, i)
  | k + 1, i, c => if (numR s i).2 = i then (c, i) else coefR s k ((numR s i).2 + 1) (c ++ [(numR s i).1])
theorem coefR_le (s : List UInt8) : ∀ (k i : Nat) (c : List Int), (coefR s k i c).2 ≤ max i (s.length + 1) ∧ (coefR s k i c).1.length ≤ c.length + k ∧ i ≤ (coefR s k i c).2
  | 0, i, c => ⟨by simp only [coefR]; omega, Nat.le_refl _, Nat.le_refl _⟩
  | k + 1, i, c => by
    rw [coefR]
    split
    · exact ⟨by dsimp only; omega, by dsimp only; omega, Nat.le_refl _⟩
    · rename_i hne
      obtain ⟨h1, h2, h3⟩ := coefR_le s k ((numR s i).2 + 1) (c ++ [(numR s i).1])
      have h4 := (numR_le s i).1
      have h5 := (numR_le s i).2.1 hne
      rw [List.length_append, List.length_cons, List.length_nil] at h2
      omega
theorem coefR_take {s r : List UInt8} {ch : UInt8} (h1 : isD ch = false) (h2 : ch ≠ 45) : ∀ (c : List Int) (k i : Nat) (acc : List Int), (∀ x ∈ c, -4 ≤ x ∧ x ≤ 4) → c.length < k → s.drop i = coefT c ++ (ch :: r) → coefR s k i acc = (acc ++ c, i + (coefT c).length)
  | [], k, i, acc, _, hk, h => by
    obtain ⟨k, rfl⟩ : ∃ j, k = j + 1 := ⟨k - 1, by simp at hk; omega⟩
    rw [coefR, numR_none (r := r) h h1 h2, if_pos rfl]
    simp [coefT]
  | x :: c, k, i, acc, hc, hk, h => by
    obtain ⟨k, rfl⟩ : ∃ j, k = j + 1 := ⟨k - 1, by simp at hk; omega⟩
    have hx := hc x (by simp)
    have e : coefT (x :: c) ++ (ch :: r) = itoa x ++ (32 :: (coefT c ++ (ch :: r))) := by simp [coefT]
    rw [e] at h
    have hn := numR_take h (stop_of _ (by decide)) (by omega) (by omega)
    have hp : 0 < (itoa x).length := by
      unfold itoa; split
      · simp
      · exact List.length_pos_iff.2 (dec_ne _)
    have h3 : s.drop (i + (itoa x).length + 1) = coefT c ++ (ch :: r) := by
      have := drop_at h
      exact drop_at (p := [32]) this
    rw [coefR, hn]
    dsimp only
    rw [if_neg (by omega), coefR_take h1 h2 c k _ _ (fun y hy => hc y (by simp [hy])) (by simp at hk; omega) h3]
    simp [coefT]
    omega
def readR (s : List UInt8) : Nat → Nat → List Nd → List Nd × Option Nat
  | 0, a, out => (out, none)
  | k + 1, a, out =>
    if s.length ≤ a then (out, none)
    else if s[a]? = some 40 then
      let c := coefR s 9 (a + 1) []
      if (s.drop c.2).take 2 = [60, 32] then
        let n := numR s (c.2 + 2)
        let p := readR s k (n.2 + 1) (out ++ [⟨c.1, n.1, (out.length : Int) + 1, 0, 0⟩])
        match p.2 with
        | none => (p.1, none)
        | some e =>
          let q := readR s k (e + 1) p.1
          match q.2 with
          | none => (q.1, none)
          | some f => (endM q.1 out.length p.1.length, some (f + 1))
      else (out, none)
    else if (numR s a).2 = a then (out, none) else (out ++ [⟨[], 0, 0, 0, (numR s a).1⟩], some (numR s a).2)
theorem readR_le (s : List UInt8) : ∀ (k a : Nat) (out : List Nd) (e : Nat), (readR s k a out).2 = some e → e ≤ s.length + k
  | 0, a, out, e, h => by simp [readR] at h
  | k + 1, a, out, e, h => by
    rw [readR] at h
    split at h
    · cases h
    · split at h
      · dsimp only at h
        split at h
        · split at h
          · cases h
          · split at h
            · cases h
            · rename_i f hf
              have := readR_le s k _ _ _ hf
              simp only [Option.some.injEq] at h
              omega
        · cases h
      · split at h
        · cases h
        · rename_i hne
          have := (numR_le s a).2.1 hne
          simp only [Option.some.injEq] at h
          omega
/-- nodes are appended, none ahead is touched; one at least, if all was as it must be -/
theorem readR_ext (s : List UInt8) : ∀ (k a : Nat) (out : List Nd), ∃ ns, (readR s k a out).1 = out ++ ns ∧ ns.length + 1 ≤ 2 ^ k ∧ (∀ e, (readR s k a out).2 = some e → 1 ≤ ns.length)
  | 0, a, out => ⟨[], by simp [readR], by simp, fun e h => by simp [readR] at h⟩
  | k + 1, a, out => by
    have hp : 2 ^ (k + 1) = 2 ^ k + 2 ^ k := by rw [Nat.pow_succ]; omega
    have h1 := Nat.one_le_two_pow (n := k)
    rw [readR]
    split
    · exact ⟨[], by simp, by simp; omega, fun e h => by cases h⟩
    · split
      · dsimp only
        obtain ⟨c, hc⟩ : ∃ c, coefR s 9 (a + 1) [] = c := ⟨_, rfl⟩
        rw [hc]
        split
        · obtain ⟨n, hn⟩ : ∃ n, numR s (c.2 + 2) = n := ⟨_, rfl⟩
          rw [hn]
          obtain ⟨n1, e1, l1, o1⟩ := readR_ext s k (n.2 + 1) (out ++ [⟨c.1, n.1, (out.length : Int) + 1, 0, 0⟩])
          obtain ⟨p, hp1⟩ : ∃ p, readR s k (n.2 + 1) (out ++ [⟨c.1, n.1, (out.length : Int) + 1, 0, 0⟩]) = p := ⟨_, rfl⟩
          rw [hp1] at e1 o1 ⊢
          split
          · exact ⟨_, e1.trans (List.append_assoc ..), by simp; omega, fun e h => by cases h⟩
          · rename_i e he
            obtain ⟨n2, e2, l2, o2⟩ := readR_ext s k (e + 1) p.1
            obtain ⟨q, hq1⟩ : ∃ q, readR s k (e + 1) p.1 = q := ⟨_, rfl⟩
            rw [hq1] at e2 o2 ⊢
            have hall : q.1 = out ++ (⟨c.1, n.1, (out.length : Int) + 1, 0, 0⟩ :: (n1 ++ n2)) := by rw [e2, e1]; simp
            split
            · exact ⟨_, hall, by simp; omega, fun e h => by cases h⟩
            · rw [hall]
              unfold endM
              dsimp only
              split
              · rename_i x l r hx hl hr
                rw [List.set_append_right _ _ (Nat.le_refl _), Nat.sub_self, List.set_cons_zero]
                exact ⟨_, rfl, by simp; omega, fun _ _ => by simp⟩
              · exact ⟨_, rfl, by simp; omega, fun _ _ => by simp⟩
        · exact ⟨[], by simp, by simp; omega, fun e h => by cases h⟩
      · split
        · exact ⟨[], by simp, by simp; omega, fun e h => by cases h⟩
        · exact ⟨_, rfl, by simp; omega, fun _ _ => by simp⟩
theorem end_take (out : List Nd) (c : List Int) (a : Int) (l q : B) {dl : Int} (hl : l.ok dl) (hq : q.ok dl) (hs : l.size + q.size ≤ 64) :
    endM (out ++ [(⟨c, a, (out.length : Int) + 1, 0, 0⟩ : Nd)] ++ l.nodes (out.length + 1) ++ q.nodes (out.length + 1 + l.count)) out.length (out.length + 1 + l.count) = out ++ (B.fork c a l q).nodes out.length := by
  have pl := size_pos hl
  have pq := size_pos hq
  obtain ⟨xl, tl, el, sl⟩ := nodes_first l (out.length + 1)
  obtain ⟨xq, tq, eq, sq⟩ := nodes_first q (out.length + 1 + l.count)
  have hall : out ++ [(⟨c, a, (out.length : Int) + 1, 0, 0⟩ : Nd)] ++ l.nodes (out.length + 1) ++ q.nodes (out.length + 1 + l.count) = out ++ (⟨c, a, (out.length : Int) + 1, 0, 0⟩ :: (l.nodes (out.length + 1) ++ q.nodes (out.length + 1 + l.count))) := by simp
  rw [hall]
  have g0 : (out ++ ((⟨c, a, (out.length : Int) + 1, 0, 0⟩ : Nd) :: (l.nodes (out.length + 1) ++ q.nodes (out.length + 1 + l.count))))[out.length]? = some ⟨c, a, (out.length : Int) + 1, 0, 0⟩ := by
    rw [List.getElem?_append_right (Nat.le_refl _), Nat.sub_self]; rfl
  have g1 : (out ++ ((⟨c, a, (out.length : Int) + 1, 0, 0⟩ : Nd) :: (l.nodes (out.length + 1) ++ q.nodes (out.length + 1 + l.count))))[out.length + 1]? = some xl := by
    rw [List.getElem?_append_right (by omega), show out.length + 1 - out.length = 1 by omega, List.getElem?_cons_succ, el]; rfl
  have g2 : (out ++ ((⟨c, a, (out.length : Int) + 1, 0, 0⟩ : Nd) :: (l.nodes (out.length + 1) ++ q.nodes (out.length + 1 + l.count))))[out.length + 1 + l.count]? = some xq := by
    rw [List.getElem?_append_right (by omega), show out.length + 1 + l.count - out.length = l.count + 1 by omega, List.getElem?_cons_succ, List.getElem?_append_right (by rw [nodes_len]; omega), nodes_len, Nat.sub_self, eq]; rfl
  unfold endM
  rw [g0, g1, g2]
  dsimp only
  rw [List.set_append_right _ _ (Nat.le_refl _), Nat.sub_self, List.set_cons_zero, sl, sq, show wrap64 (l.size + q.size) = l.size + q.size by unfold wrap64; omega]
  simp [B.nodes]
theorem readR_take {dim : Int} {s : List UInt8} : ∀ (b : B) (k a : Nat) (r : List UInt8) (out : List Nd), b.ok dim → b.size ≤ 64 → b.high + 1 ≤ k → Stop r → s.drop a = txt b ++ r → readR s k a out = (out ++ b.nodes out.length, some (a + (txt b).length))
  | .leaf n, k, a, r, out, h, hs, hk, hr, ht => by
    have h : 1 ≤ n := h
    have hs : n ≤ 64 := hs
    obtain ⟨k, rfl⟩ : ∃ j, k = j + 1 := ⟨k - 1, by omega⟩
    have ht : s.drop a = itoa n ++ r := ht
    have hn := numR_take ht hr (by omega) (by omega)
    have hp : 0 < (itoa n).length := by
      unfold itoa; rw [if_neg (by omega)]; exact List.length_pos_iff.2 (dec_ne _)
    have hl : a < s.length := by
      have := congrArg List.length ht
      rw [List.length_drop, List.length_append] at this; omega
    have h40 : s[a]? ≠ some 40 := by
      have := itoa_head n r h
      rw [← ht] at this
      rw [List.head?_drop] at this
      exact this
    rw [readR, if_neg (by omega), if_neg h40, hn, if_neg (by dsimp only; omega)]
    rfl
  | .fork c a0 l q, k, a, r, out, h, hs, hk, hr, ht => by
    obtain ⟨⟨⟨k1, k2, k3, k4, _⟩, ka, kb⟩, hl, hq⟩ := id h
    have pl := size_pos hl
    have pq := size_pos hq
    simp only [B.size] at hs
    simp only [B.high] at hk
    obtain ⟨k, rfl⟩ : ∃ j, k = j + 1 := ⟨k - 1, by omega⟩
    have e : txt (.fork c a0 l q) ++ r = 40 :: (coefT c ++ (60 :: (32 :: (itoa a0 ++ (32 :: (txt l ++ (32 :: (txt q ++ (41 :: r)))))))) ) := by simp [txt]
    rw [e] at ht
    have d1 : s.drop (a + 1) = coefT c ++ (60 :: (32 :: (itoa a0 ++ (32 :: (txt l ++ (32 :: (txt q ++ (41 :: r)))))))) := drop_at (p := [40]) ht
    have d2 := drop_at d1
    have d3 : s.drop (a + 1 + (coefT c).length + 2) = itoa a0 ++ (32 :: (txt l ++ (32 :: (txt q ++ (41 :: r))))) := drop_at (p := [60, 32]) d2
    have d4 := drop_at d3
    have d5 : s.drop (a + 1 + (coefT c).length + 2 + (itoa a0).length + 1) = txt l ++ (32 :: (txt q ++ (41 :: r))) := drop_at (p := [32]) d4
    have d6 := drop_at d5
    have d7 : s.drop (a + 1 + (coefT c).length + 2 + (itoa a0).length + 1 + (txt l).length + 1) = txt q ++ (41 :: r) := drop_at (p := [32]) d6
    have hC := coefR_take (s := s) (ch := 60) (by decide) (by decide) c 9 (a + 1) [] k4 (by omega) d1
    have hN := numR_take d3 (stop_of _ (by decide)) (by omega) (by omega)
    have hlen1 : (out ++ [(⟨c, a0, (out.length : Int) + 1, 0, 0⟩ : Nd)]).length = out.length + 1 := by simp
    have hlen2 : (out ++ [(⟨c, a0, (out.length : Int) + 1, 0, 0⟩ : Nd)] ++ l.nodes (out.length + 1)).length = out.length + 1 + l.count := by simp [nodes_len]; omega
    have i1 := readR_take l k _ _ (out ++ [(⟨c, a0, (out.length : Int) + 1, 0, 0⟩ : Nd)]) hl (by omega) (by omega) (stop_of _ (by decide)) d5
    rw [hlen1] at i1
    have i2 := readR_take q k _ _ (out ++ [(⟨c, a0, (out.length : Int) + 1, 0, 0⟩ : Nd)] ++ l.nodes (out.length + 1)) hq (by omega) (by omega) (stop_of _ (by decide)) d7
    rw [hlen2] at i2
    have hlt : a < s.length := by
      have := congrArg List.length ht
      rw [List.length_drop, List.length_cons] at this; omega
    rw [readR, if_neg (by omega), if_pos (get_at ht)]
    dsimp only
    rw [hC]
    dsimp only
    rw [d2, show ∀ X : List UInt8, List.take 2 (60 :: 32 :: X) = [60, 32] from fun _ => rfl, if_pos rfl, hN]
    dsimp only
    rw [List.nil_append, i1]
    dsimp only
    rw [i2]
    dsimp only
    rw [hlen2, end_take out c a0 l q hl hq (by omega)]
    congr 2
    have : (txt (.fork c a0 l q)).length + r.length = (1 + (coefT c).length + 2 + (itoa a0).length + 1 + (txt l).length + 1 + (txt q).length + 1) + r.length := by
      rw [← List.length_append, e]; simp; omega
    omega
noncomputable def rparseR (s : List UInt8) : Int × List Nd × Int :=
  if s ≠ [] ∧ textOf (numR s 0).1 (readR s 7 ((numR s 0).2 + 1) []).1 = s then ((numR s 0).1, (readR s 7 ((numR s 0).2 + 1) []).1, 0) else (0, [], 20)
theorem rparse_eq (s : List UInt8) : rparseR s = parseR s := by
  by_cases hx : ∃ (dim : Int) (b : B), IsT dim (b.nodes 0) ∧ s = text dim b
  · obtain ⟨dim, b, hT, rfl⟩ := hx
    obtain ⟨h1, h2, b', hat, hct, hok, hsz, hhi⟩ := id hT
    obtain rfl := at_unique hat (at_nodes b)
    have h6 : b'.high ≤ 6 := Nat.le_trans hhi (ShpT.lg_cases (size_pos hok) hsz).2.2
    rw [parse_text h1 h2 hok hsz hhi]
    have e0 : (text dim b').drop 0 = itoa dim ++ (58 :: txt b') := rfl
    have hN := numR_take e0 (stop_of _ (by decide)) (by omega) (by omega)
    have e1 := drop_at e0
    have e2 : (text dim b').drop (0 + (itoa dim).length + 1) = txt b' ++ [] := by rw [List.append_nil]; exact drop_at (p := [58]) e1
    have hR := readR_take b' 7 _ [] [] hok hsz (by omega) (.inl rfl) e2
    unfold rparseR
    rw [hN]
    dsimp only
    rw [hR]
    dsimp only
    rw [List.nil_append, List.length_nil, textOf_tree hT (at_nodes b'), if_pos ⟨by unfold text; simp, rfl⟩]
  · rw [parse_fail (fun dim b hT e => hx ⟨dim, b, hT, e⟩)]
    unfold rparseR
    rw [if_neg]
    rintro ⟨hne, ht⟩
    by_cases hT : IsT (numR s 0).1 (readR s 7 ((numR s 0).2 + 1) []).1
    · obtain ⟨_, _, b, hat, hct, _⟩ := id hT
      rw [textOf_tree hT hat] at ht
      rw [at_full hat hct] at hT
      exact hx ⟨_, b, hT, ht.symm⟩
    · rw [textOf_none hT] at ht
      exact hne ht.symm
end Go.Proofs.YtmmgfelifmdnbaaDoor.RfpM

/- The reference's number. -/
namespace Go.Proofs.YtmmgfelifmdnbaaDoor.RfnW
set_option linter.unusedVariables false
open Go.RowKit Go.Shelf Base SeqM ShpM ShpT ItrD TxtM GlbS WrtM RdrW RfpM

def RnRel (s : List UInt8) (f : Nat) (i m : Value) : Prop := ∃ k z N : Nat, k ≤ (digR s f).length ∧ z = f + k ∧ N = digN 0 ((digR s f).take k) ∧ i = .int .i64 (z : Int) ∧ m = .int .i64 (N : Int)
set_option maxHeartbeats 4000000 in
set_option maxRecDepth 100000 in
theorem RNum_any (s : List UInt8) (a : Nat) (w : World) (hlen : s.length ≤ 1000000) (ha : a ≤ 1001000) :
    Calls Tryd.prog 47 #[.string ⟨s.toArray⟩, .int .i64 (a : Int)] w fun e w' => e = .returned (.tuple #[.int .i64 (numR s a).1, .int .i64 ((numR s a).2 : Int)]) ∧ w = w' := by
  obtain ⟨sl, hsl⟩ : ∃ sl, s.length = sl := ⟨_, rfl⟩
  obtain ⟨f, hf⟩ : ∃ f, fromR s a = f := ⟨_, rfl⟩
  obtain ⟨dl, hdl⟩ : ∃ dl, (digR s f).length = dl := ⟨_, rfl⟩
  have HF := Lib.hid hf
  have HSL := Lib.hid hsl
  have HDL := Lib.hid hdl
  have HL13 := Lib.hid (digR_le s f)
  have HLT := Lib.hid (fun k => digR_lt s f k)
  have HNX := Lib.hid (fun k => digR_next (s := s) (a := f) (k := k))
  have HEN := Lib.hid (fun k => digR_end (s := s) (a := f) (k := k))
  have HNR := Lib.hid (show numR s a = if dl = 0 then (0, a) else (if a < f then -(digN 0 (digR s f) : Int) else (digN 0 (digR s f) : Int), f + dl) by unfold numR; rw [hf, hdl])
  have H0 := Lib.hid (show RnRel s f (.int .i64 (f : Int)) (.int .i64 0) from ⟨0, f, 0, Nat.zero_le _, rfl, rfl, rfl, rfl⟩)
  have hss : s.toArray.size = sl := by simpa using hsl
  have HIX := Lib.hid (fun (k : Nat) (c : UInt8) (hc : s[k]? = some c) (hh : k < (⟨s.toArray⟩ : ByteArray).size) => show (⟨s.toArray⟩ : ByteArray)[k]'hh = c from by
    obtain ⟨h1, h2⟩ := List.getElem?_eq_some_iff.1 hc
    exact h2)
  have HGL := Lib.hid (fun (k : Nat) (hk : k < sl) => (⟨_, List.getElem?_eq_getElem (by rw [hsl]; exact hk)⟩ : ∃ c, s[k]? = some c))
  have hfa := from_le s a
  rw [hf] at hfa
  rw [hsl] at hlen
  have HFF := Lib.hid (show f = if s[a]? = some 45 then a + 1 else a by rw [← hf]; rfl)
  have HTK := Lib.hid (show (digR s f).take dl = digR s f by rw [← hdl]; exact List.take_length)
  clear hf hsl hdl
  go_enter Tryd.func47, Tryd.ntmps47
  by_cases hal : a < sl
  · obtain ⟨c0, hc0⟩ := HGL.out a hal
    have hix0 := HIX.out a c0 hc0
    by_cases h45 : c0 = 45
    · subst h45
      have hfe : f = a + 1 := by rw [HFF.out, if_pos hc0]
      have h45b : (((45 : UInt8).toNat : Int) == 45) = true := by decide
      clear hc0
      go_wp2_with fail
      rw [show (a : Int) + 1 = (f : Int) from by omega]
      have HFE := Lib.hid hfe
      have hfb : f ≤ 1001001 := by omega
      clear hfe hfa
      go_loop [6, 8] (fun i m => RnRel s f i m) (fun i _ => f + dl - (intOf i).toNat)
      case atStart => exact H0.out
      case round =>
        obtain ⟨k, z, N, hk, hz, hN, rfl, rfl⟩ := hrel
        rw [HDL.out] at hk
        have HNN := Lib.hid hN
        have hNb : N < 10000000000000 := by rw [hN]; exact HLT.out k
        have h13b := HL13.out.1
        rw [HDL.out] at h13b
        clear hN
        by_cases hkd : k = dl
        · by_cases hzl : z < sl
          · by_cases h13 : z < f + 13
            · obtain ⟨c, hc, hd⟩ : ∃ c, s[z]? = some c ∧ isD c = false := by
                rcases HEN.out k (by rw [hkd, HDL.out]) with h1 | h1 | h1
                · omega
                · rw [HSL.out] at h1; omega
                · rw [← hz] at h1; exact h1
              have hix := HIX.out z c hc
              have h13i : decide ((z : Int) < (f : Int) + 13) = true := decide_eq_true (by omega)
              by_cases hd1 : 48 ≤ c.toNat
              · have hd2 : ¬ c.toNat ≤ 57 := fun h2 => by unfold isD at hd; exact absurd ⟨hd1, h2⟩ (of_decide_eq_false hd)
                have hd3 : decide ((c.toNat : Int) ≥ (48 : Int)) = true := decide_eq_true (by omega)
                have hd4 : decide ((c.toNat : Int) ≤ (57 : Int)) = false := decide_eq_false (by omega)
                clear hc hd
                by_cases hk0 : dl = 0
                · have hzf : ((z : Int) == (f : Int)) = true := beq_iff_eq.2 (by omega)
                  have F := Lib.hid (show numR s a = (0, a) by rw [HNR.out, if_pos hk0])
                  first
                  | (exfalso; omega)
                  | (clear hz hkd hk
                     go_wp2_with fail
                     go_ret2
                     exact ⟨by rw [F.out]; rfl, rfl⟩)
                · have hzf : ((z : Int) == (f : Int)) = false := beq_eq_false_iff_ne.2 (by omega)
                  have hfa2 : a < f := by have := HFE.out; omega
                  have hgt : decide ((f : Int) > (a : Int)) = true := decide_eq_true (by omega)
                  have F := Lib.hid (show numR s a = (-(N : Int), z) by rw [HNR.out, if_neg hk0, if_pos hfa2, hz, HNN.out, hkd, HTK.out])
                  clear hz hkd hk
                  go_wp2_with fail
                  go_ret2
                  exact ⟨by rw [F.out]; first | rfl | go_num, rfl⟩
              · have hd3 : decide ((c.toNat : Int) ≥ (48 : Int)) = false := decide_eq_false (by omega)
                clear hc hd
                by_cases hk0 : dl = 0
                · have hzf : ((z : Int) == (f : Int)) = true := beq_iff_eq.2 (by omega)
                  have F := Lib.hid (show numR s a = (0, a) by rw [HNR.out, if_pos hk0])
                  first
                  | (exfalso; omega)
                  | (clear hz hkd hk
                     go_wp2_with fail
                     go_ret2
                     exact ⟨by rw [F.out]; rfl, rfl⟩)
                · have hzf : ((z : Int) == (f : Int)) = false := beq_eq_false_iff_ne.2 (by omega)
                  have hfa2 : a < f := by have := HFE.out; omega
                  have hgt : decide ((f : Int) > (a : Int)) = true := decide_eq_true (by omega)
                  have F := Lib.hid (show numR s a = (-(N : Int), z) by rw [HNR.out, if_neg hk0, if_pos hfa2, hz, HNN.out, hkd, HTK.out])
                  clear hz hkd hk
                  go_wp2_with fail
                  go_ret2
                  exact ⟨by rw [F.out]; first | rfl | go_num, rfl⟩
            · have h13i : decide ((z : Int) < (f : Int) + 13) = false := decide_eq_false (by omega)
              by_cases hk0 : dl = 0
              · have hzf : ((z : Int) == (f : Int)) = true := beq_iff_eq.2 (by omega)
                have F := Lib.hid (show numR s a = (0, a) by rw [HNR.out, if_pos hk0])
                first
                | (exfalso; omega)
                | (clear hz hkd hk
                   go_wp2_with fail
                   go_ret2
                   exact ⟨by rw [F.out]; rfl, rfl⟩)
              · have hzf : ((z : Int) == (f : Int)) = false := beq_eq_false_iff_ne.2 (by omega)
                have hfa2 : a < f := by have := HFE.out; omega
                have hgt : decide ((f : Int) > (a : Int)) = true := decide_eq_true (by omega)
                have F := Lib.hid (show numR s a = (-(N : Int), z) by rw [HNR.out, if_neg hk0, if_pos hfa2, hz, HNN.out, hkd, HTK.out])
                clear hz hkd hk
                go_wp2_with fail
                go_ret2
                exact ⟨by rw [F.out]; first | rfl | go_num, rfl⟩
          · skip
            by_cases hk0 : dl = 0
            · have hzf : ((z : Int) == (f : Int)) = true := beq_iff_eq.2 (by omega)
              have F := Lib.hid (show numR s a = (0, a) by rw [HNR.out, if_pos hk0])
              first
              | (exfalso; omega)
              | (clear hz hkd hk
                 go_wp2_with fail
                 go_ret2
                 exact ⟨by rw [F.out]; rfl, rfl⟩)
            · have hzf : ((z : Int) == (f : Int)) = false := beq_eq_false_iff_ne.2 (by omega)
              have hfa2 : a < f := by have := HFE.out; omega
              have hgt : decide ((f : Int) > (a : Int)) = true := decide_eq_true (by omega)
              have F := Lib.hid (show numR s a = (-(N : Int), z) by rw [HNR.out, if_neg hk0, if_pos hfa2, hz, HNN.out, hkd, HTK.out])
              clear hz hkd hk
              go_wp2_with fail
              go_ret2
              exact ⟨by rw [F.out]; first | rfl | go_num, rfl⟩
        · obtain ⟨c, hc, hd, _, hnx⟩ := HNX.out k (by rw [HDL.out]; omega)
          rw [← hz] at hc
          have hzl : z < sl := by have := (List.getElem?_eq_some_iff.1 hc).1; rw [HSL.out] at this; exact this
          have hix := HIX.out z c hc
          have hdd : 48 ≤ c.toNat ∧ c.toNat ≤ 57 := by unfold isD at hd; exact of_decide_eq_true hd
          have hd3 : decide ((c.toNat : Int) ≥ (48 : Int)) = true := decide_eq_true (by omega)
          have hd4 : decide ((c.toNat : Int) ≤ (57 : Int)) = true := decide_eq_true (by omega)
          have h13i : decide ((z : Int) < (f : Int) + 13) = true := decide_eq_true (by omega)
          have HR := Lib.hid (fun (i m : Value) (h1 : i = .int .i64 ((z : Int) + 1)) (h3 : m = .int .i64 (10 * (N : Int) + (c.toNat : Int) - 48)) => show RnRel s f i m from ⟨k + 1, z + 1, _, by rw [HDL.out]; omega, by omega, rfl, by rw [h1]; congr 1, by rw [h3, hnx, ← HNN.out]; congr 1; omega⟩)
          have hzm : z < f + dl := by omega
          clear hc hd hnx hz hk hkd
          go_wp2_with fail
          exact ⟨HR.out _ _ (by first | rfl | go_num) (by first | rfl | go_num), by simp [intOf]; omega⟩
    · have hfe : f = a := by rw [HFF.out, if_neg (by rw [hc0]; intro e; exact h45 (Option.some.inj e))]
      have h45b : ((c0.toNat : Int) == 45) = false := beq_eq_false_iff_ne.2 (fun e => h45 (UInt8.toNat_inj.1 (by have : c0.toNat = 45 := by omega
                                                                                                                 rw [this]; rfl)))
      clear hc0 h45
      subst hfe
      go_wp2_with fail
      go_loop [6, 8] (fun i m => RnRel s f i m) (fun i _ => f + dl - (intOf i).toNat)
      case atStart => exact H0.out
      case round =>
        obtain ⟨k, z, N, hk, hz, hN, rfl, rfl⟩ := hrel
        rw [HDL.out] at hk
        have HNN := Lib.hid hN
        have hNb : N < 10000000000000 := by rw [hN]; exact HLT.out k
        have h13b := HL13.out.1
        rw [HDL.out] at h13b
        clear hN
        by_cases hkd : k = dl
        · by_cases hzl : z < sl
          · by_cases h13 : z < f + 13
            · obtain ⟨c, hc, hd⟩ : ∃ c, s[z]? = some c ∧ isD c = false := by
                rcases HEN.out k (by rw [hkd, HDL.out]) with h1 | h1 | h1
                · omega
                · rw [HSL.out] at h1; omega
                · rw [← hz] at h1; exact h1
              have hix := HIX.out z c hc
              have h13i : decide ((z : Int) < (f : Int) + 13) = true := decide_eq_true (by omega)
              by_cases hd1 : 48 ≤ c.toNat
              · have hd2 : ¬ c.toNat ≤ 57 := fun h2 => by unfold isD at hd; exact absurd ⟨hd1, h2⟩ (of_decide_eq_false hd)
                have hd3 : decide ((c.toNat : Int) ≥ (48 : Int)) = true := decide_eq_true (by omega)
                have hd4 : decide ((c.toNat : Int) ≤ (57 : Int)) = false := decide_eq_false (by omega)
                clear hc hd
                by_cases hk0 : dl = 0
                · have hzf : ((z : Int) == (f : Int)) = true := beq_iff_eq.2 (by omega)
                  have F := Lib.hid (show numR s f = (0, f) by rw [HNR.out, if_pos hk0])
                  first
                  | (exfalso; omega)
                  | (clear hz hkd hk
                     go_wp2_with fail
                     go_ret2
                     exact ⟨by rw [F.out]; rfl, rfl⟩)
                · have hzf : ((z : Int) == (f : Int)) = false := beq_eq_false_iff_ne.2 (by omega)
                  have hgt : decide ((f : Int) > (f : Int)) = false := decide_eq_false (by omega)
                  have F := Lib.hid (show numR s f = ((N : Int), z) by rw [HNR.out, if_neg hk0, if_neg (Nat.lt_irrefl _), hz, HNN.out, hkd, HTK.out])
                  clear hz hkd hk
                  go_wp2_with fail
                  go_ret2
                  exact ⟨by rw [F.out]; rfl, rfl⟩
              · have hd3 : decide ((c.toNat : Int) ≥ (48 : Int)) = false := decide_eq_false (by omega)
                clear hc hd
                by_cases hk0 : dl = 0
                · have hzf : ((z : Int) == (f : Int)) = true := beq_iff_eq.2 (by omega)
                  have F := Lib.hid (show numR s f = (0, f) by rw [HNR.out, if_pos hk0])
                  first
                  | (exfalso; omega)
                  | (clear hz hkd hk
                     go_wp2_with fail
                     go_ret2
                     exact ⟨by rw [F.out]; rfl, rfl⟩)
                · have hzf : ((z : Int) == (f : Int)) = false := beq_eq_false_iff_ne.2 (by omega)
                  have hgt : decide ((f : Int) > (f : Int)) = false := decide_eq_false (by omega)
                  have F := Lib.hid (show numR s f = ((N : Int), z) by rw [HNR.out, if_neg hk0, if_neg (Nat.lt_irrefl _), hz, HNN.out, hkd, HTK.out])
                  clear hz hkd hk
                  go_wp2_with fail
                  go_ret2
                  exact ⟨by rw [F.out]; rfl, rfl⟩
            · have h13i : decide ((z : Int) < (f : Int) + 13) = false := decide_eq_false (by omega)
              by_cases hk0 : dl = 0
              · have hzf : ((z : Int) == (f : Int)) = true := beq_iff_eq.2 (by omega)
                have F := Lib.hid (show numR s f = (0, f) by rw [HNR.out, if_pos hk0])
                first
                | (exfalso; omega)
                | (clear hz hkd hk
                   go_wp2_with fail
                   go_ret2
                   exact ⟨by rw [F.out]; rfl, rfl⟩)
              · have hzf : ((z : Int) == (f : Int)) = false := beq_eq_false_iff_ne.2 (by omega)
                have hgt : decide ((f : Int) > (f : Int)) = false := decide_eq_false (by omega)
                have F := Lib.hid (show numR s f = ((N : Int), z) by rw [HNR.out, if_neg hk0, if_neg (Nat.lt_irrefl _), hz, HNN.out, hkd, HTK.out])
                clear hz hkd hk
                go_wp2_with fail
                go_ret2
                exact ⟨by rw [F.out]; rfl, rfl⟩
          · skip
            by_cases hk0 : dl = 0
            · have hzf : ((z : Int) == (f : Int)) = true := beq_iff_eq.2 (by omega)
              have F := Lib.hid (show numR s f = (0, f) by rw [HNR.out, if_pos hk0])
              first
              | (exfalso; omega)
              | (clear hz hkd hk
                 go_wp2_with fail
                 go_ret2
                 exact ⟨by rw [F.out]; rfl, rfl⟩)
            · have hzf : ((z : Int) == (f : Int)) = false := beq_eq_false_iff_ne.2 (by omega)
              have hgt : decide ((f : Int) > (f : Int)) = false := decide_eq_false (by omega)
              have F := Lib.hid (show numR s f = ((N : Int), z) by rw [HNR.out, if_neg hk0, if_neg (Nat.lt_irrefl _), hz, HNN.out, hkd, HTK.out])
              clear hz hkd hk
              go_wp2_with fail
              go_ret2
              exact ⟨by rw [F.out]; rfl, rfl⟩
        · obtain ⟨c, hc, hd, _, hnx⟩ := HNX.out k (by rw [HDL.out]; omega)
          rw [← hz] at hc
          have hzl : z < sl := by have := (List.getElem?_eq_some_iff.1 hc).1; rw [HSL.out] at this; exact this
          have hix := HIX.out z c hc
          have hdd : 48 ≤ c.toNat ∧ c.toNat ≤ 57 := by unfold isD at hd; exact of_decide_eq_true hd
          have hd3 : decide ((c.toNat : Int) ≥ (48 : Int)) = true := decide_eq_true (by omega)
          have hd4 : decide ((c.toNat : Int) ≤ (57 : Int)) = true := decide_eq_true (by omega)
          have h13i : decide ((z : Int) < (f : Int) + 13) = true := decide_eq_true (by omega)
          have HR := Lib.hid (fun (i m : Value) (h1 : i = .int .i64 ((z : Int) + 1)) (h3 : m = .int .i64 (10 * (N : Int) + (c.toNat : Int) - 48)) => show RnRel s f i m from ⟨k + 1, z + 1, _, by rw [HDL.out]; omega, by omega, rfl, by rw [h1]; congr 1, by rw [h3, hnx, ← HNN.out]; congr 1; omega⟩)
          have hzm : z < f + dl := by omega
          clear hc hd hnx hz hk hkd
          go_wp2_with fail
          exact ⟨HR.out _ _ (by first | rfl | go_num) (by first | rfl | go_num), by simp [intOf]; omega⟩
  · have hfe : f = a := by
      rw [HFF.out, if_neg]
      intro e
      have := (List.getElem?_eq_some_iff.1 e).1
      rw [HSL.out] at this
      exact hal this
    subst hfe
    go_wp2_with fail
    go_loop [6, 8] (fun i m => RnRel s f i m) (fun i _ => f + dl - (intOf i).toNat)
    case atStart => exact H0.out
    case round =>
      obtain ⟨k, z, N, hk, hz, hN, rfl, rfl⟩ := hrel
      rw [HDL.out] at hk
      have HNN := Lib.hid hN
      have hNb : N < 10000000000000 := by rw [hN]; exact HLT.out k
      have h13b := HL13.out.1
      rw [HDL.out] at h13b
      clear hN
      by_cases hkd : k = dl
      · by_cases hzl : z < sl
        · by_cases h13 : z < f + 13
          · obtain ⟨c, hc, hd⟩ : ∃ c, s[z]? = some c ∧ isD c = false := by
              rcases HEN.out k (by rw [hkd, HDL.out]) with h1 | h1 | h1
              · omega
              · rw [HSL.out] at h1; omega
              · rw [← hz] at h1; exact h1
            have hix := HIX.out z c hc
            have h13i : decide ((z : Int) < (f : Int) + 13) = true := decide_eq_true (by omega)
            by_cases hd1 : 48 ≤ c.toNat
            · have hd2 : ¬ c.toNat ≤ 57 := fun h2 => by unfold isD at hd; exact absurd ⟨hd1, h2⟩ (of_decide_eq_false hd)
              have hd3 : decide ((c.toNat : Int) ≥ (48 : Int)) = true := decide_eq_true (by omega)
              have hd4 : decide ((c.toNat : Int) ≤ (57 : Int)) = false := decide_eq_false (by omega)
              clear hc hd
              by_cases hk0 : dl = 0
              · have hzf : ((z : Int) == (f : Int)) = true := beq_iff_eq.2 (by omega)
                have F := Lib.hid (show numR s f = (0, f) by rw [HNR.out, if_pos hk0])
                first
                | (exfalso; omega)
                | (clear hz hkd hk
                   go_wp2_with fail
                   go_ret2
                   exact ⟨by rw [F.out]; rfl, rfl⟩)
              · have hzf : ((z : Int) == (f : Int)) = false := beq_eq_false_iff_ne.2 (by omega)
                have hgt : decide ((f : Int) > (f : Int)) = false := decide_eq_false (by omega)
                have F := Lib.hid (show numR s f = ((N : Int), z) by rw [HNR.out, if_neg hk0, if_neg (Nat.lt_irrefl _), hz, HNN.out, hkd, HTK.out])
                clear hz hkd hk
                go_wp2_with fail
                go_ret2
                exact ⟨by rw [F.out]; rfl, rfl⟩
            · have hd3 : decide ((c.toNat : Int) ≥ (48 : Int)) = false := decide_eq_false (by omega)
              clear hc hd
              by_cases hk0 : dl = 0
              · have hzf : ((z : Int) == (f : Int)) = true := beq_iff_eq.2 (by omega)
                have F := Lib.hid (show numR s f = (0, f) by rw [HNR.out, if_pos hk0])
                first
                | (exfalso; omega)
                | (clear hz hkd hk
                   go_wp2_with fail
                   go_ret2
                   exact ⟨by rw [F.out]; rfl, rfl⟩)
              · have hzf : ((z : Int) == (f : Int)) = false := beq_eq_false_iff_ne.2 (by omega)
                have hgt : decide ((f : Int) > (f : Int)) = false := decide_eq_false (by omega)
                have F := Lib.hid (show numR s f = ((N : Int), z) by rw [HNR.out, if_neg hk0, if_neg (Nat.lt_irrefl _), hz, HNN.out, hkd, HTK.out])
                clear hz hkd hk
                go_wp2_with fail
                go_ret2
                exact ⟨by rw [F.out]; rfl, rfl⟩
          · have h13i : decide ((z : Int) < (f : Int) + 13) = false := decide_eq_false (by omega)
            by_cases hk0 : dl = 0
            · have hzf : ((z : Int) == (f : Int)) = true := beq_iff_eq.2 (by omega)
              have F := Lib.hid (show numR s f = (0, f) by rw [HNR.out, if_pos hk0])
              first
              | (exfalso; omega)
              | (clear hz hkd hk
                 go_wp2_with fail
                 go_ret2
                 exact ⟨by rw [F.out]; rfl, rfl⟩)
            · have hzf : ((z : Int) == (f : Int)) = false := beq_eq_false_iff_ne.2 (by omega)
              have hgt : decide ((f : Int) > (f : Int)) = false := decide_eq_false (by omega)
              have F := Lib.hid (show numR s f = ((N : Int), z) by rw [HNR.out, if_neg hk0, if_neg (Nat.lt_irrefl _), hz, HNN.out, hkd, HTK.out])
              clear hz hkd hk
              go_wp2_with fail
              go_ret2
              exact ⟨by rw [F.out]; rfl, rfl⟩
        · skip
          by_cases hk0 : dl = 0
          · have hzf : ((z : Int) == (f : Int)) = true := beq_iff_eq.2 (by omega)
            have F := Lib.hid (show numR s f = (0, f) by rw [HNR.out, if_pos hk0])
            first
            | (exfalso; omega)
            | (clear hz hkd hk
               go_wp2_with fail
               go_ret2
               exact ⟨by rw [F.out]; rfl, rfl⟩)
          · have hzf : ((z : Int) == (f : Int)) = false := beq_eq_false_iff_ne.2 (by omega)
            have hgt : decide ((f : Int) > (f : Int)) = false := decide_eq_false (by omega)
            have F := Lib.hid (show numR s f = ((N : Int), z) by rw [HNR.out, if_neg hk0, if_neg (Nat.lt_irrefl _), hz, HNN.out, hkd, HTK.out])
            clear hz hkd hk
            go_wp2_with fail
            go_ret2
            exact ⟨by rw [F.out]; rfl, rfl⟩
      · obtain ⟨c, hc, hd, _, hnx⟩ := HNX.out k (by rw [HDL.out]; omega)
        rw [← hz] at hc
        have hzl : z < sl := by have := (List.getElem?_eq_some_iff.1 hc).1; rw [HSL.out] at this; exact this
        have hix := HIX.out z c hc
        have hdd : 48 ≤ c.toNat ∧ c.toNat ≤ 57 := by unfold isD at hd; exact of_decide_eq_true hd
        have hd3 : decide ((c.toNat : Int) ≥ (48 : Int)) = true := decide_eq_true (by omega)
        have hd4 : decide ((c.toNat : Int) ≤ (57 : Int)) = true := decide_eq_true (by omega)
        have h13i : decide ((z : Int) < (f : Int) + 13) = true := decide_eq_true (by omega)
        have HR := Lib.hid (fun (i m : Value) (h1 : i = .int .i64 ((z : Int) + 1)) (h3 : m = .int .i64 (10 * (N : Int) + (c.toNat : Int) - 48)) => show RnRel s f i m from ⟨k + 1, z + 1, _, by rw [HDL.out]; omega, by omega, rfl, by rw [h1]; congr 1, by rw [h3, hnx, ← HNN.out]; congr 1; omega⟩)
        have hzm : z < f + dl := by omega
        clear hc hd hnx hz hk hkd
        go_wp2_with fail
        exact ⟨HR.out _ _ (by first | rfl | go_num) (by first | rfl | go_num), by simp [intOf]; omega⟩
end Go.Proofs.YtmmgfelifmdnbaaDoor.RfnW

/- The reference's read. -/
namespace Go.Proofs.YtmmgfelifmdnbaaDoor.RfdW
set_option linter.unusedVariables false
open Go.RowKit Go.Shelf Base SeqM ShpM ShpT ShpV ItrD ItrG TxtM GlbS WrtM RdrW PrsM PruW PrsS RfpM RfnW KeeW
open PrsW (endM_eq get_map own_low)

/-- the row of nodes that read holds, and their coefficients -/
structure RS (n0 : Nat) (v : Value) (rs : List (Value × Nd)) (W : World) : Prop where
  own : W.ownsRow n0 39 5 v rs.length (rs.flatMap ndC)
  coef : ∀ r ∈ rs, W.ownsRow n0 3 1 r.1 r.2.coef.length (r.2.coef.map (Value.int .i64))
theorem RS.below {n0 : Nat} {v : Value} {rs : List (Value × Nd)} {W W' : World} (h : RS n0 v rs W) (hb : Below W.heap.size W W') : RS n0 v rs W' := ⟨own_below h.own hb, fun r hr => own_below (h.coef r hr) hb⟩
theorem typ_ne {W : World} {k : Nat} (h : Typ W k 39) (h' : Typ W k 3) : False := by
  have := h.eq h'
  revert this
  decide
theorem RS.app {n0 : Nat} {OA A' : Option Addr} {on oc c' : Nat} {rs : List (Value × Nd)} {W W' : World} {cv : Value} {nd : Nd} (h : RS n0 (.slice OA on oc) rs W) (hon : rs.length = on)
    (hA : App W W' n0 39 5 OA on oc A' (on + 1) c' (rs.flatMap ndC ++ ndC (cv, nd))) (hcv : W.ownsRow n0 3 1 cv nd.coef.length (nd.coef.map (Value.int .i64))) :
    RS n0 (.slice A' (on + 1) c') (rs ++ [(cv, nd)]) W' := by
  have hK := KeepB.of_app hA
  have ho := h.own
  refine ⟨by have := hA.own; simpa [hon] using this, fun r hr => ?_⟩
  rcases List.mem_append.1 hr with hr | hr
  · exact own_keep (h.coef r hr) fun k hk hT => hK.2.1 k hk fun e => typ_ne (own_typ ho k e).1 hT
  · obtain rfl := List.mem_singleton.1 hr
    exact own_keep hcv fun k hk hT => hK.2.1 k hk fun e => typ_ne (own_typ ho k e).1 hT
theorem RS.set {n0 g n cap : Nat} {rs : List (Value × Nd)} {W : World} (h : RS n0 (.slice (some ⟨g, 0, none⟩) n cap) rs W) (hn : rs.length = n) (o : Nat) (ho : o < 5) (v : Value) (nd' : Nd) (z : Nat) {x : Value × Nd} (hx : rs[z]? = some x)
    (he : (ndC x).set o v = ndC (x.1, nd')) (hc : nd'.coef = x.2.coef) : RS n0 (.slice (some ⟨g, 0, none⟩) n cap) (rs.set z (x.1, nd')) (W.setCell ⟨g, z * 5 + o, none⟩ v) := by
  have hown := h.own
  rw [hn] at hown
  obtain ⟨hT, hg, _⟩ := own_typ hown g rfl
  refine ⟨by rw [List.length_set, hn]; exact own_setG hown o ho v nd' z hx hn he, fun r hr => ?_⟩
  have hk : ∀ r' ∈ rs, (W.setCell ⟨g, z * 5 + o, none⟩ v).ownsRow n0 3 1 r'.1 r'.2.coef.length (r'.2.coef.map (Value.int .i64)) := fun r' hr' => own_keep (h.coef r' hr') fun k hk hT' => Below.heap_setCell _ _ _ k (fun e => by subst e; exact typ_ne hT hT')
  rcases List.mem_or_eq_of_mem_set hr with h1 | rfl
  · exact hk r h1
  · have := hk x (List.mem_of_getElem? hx)
    dsimp only
    rw [hc]
    exact this
theorem RS.nds {n0 : Nat} {v : Value} {rs : List (Value × Nd)} {W : World} (h : RS n0 v rs W) : Nds W n0 W.heap.size v (rs.map (·.2)) :=
  ⟨rs, rfl, Seq.of_own h.own, fun r hr => Seq.of_own (f := inC) (by rw [flat_inC]; exact h.coef r hr)⟩
def endI : Option Nat → Int
  | none => -1
  | some e => (e : Int)
def RdPost (n0 : Nat) (p : List Nd × Option Nat) (w : World) (v : Value) (e : Ending) (w' : World) : Prop :=
  ∃ (v' : Value) (rs' : List (Value × Nd)), e = .returned (.tuple #[v', .int .i64 (endI p.2)]) ∧ rs'.map (·.2) = p.1 ∧ RS n0 v' rs' w' ∧ KeepB n0 w w' v v'
def CfRel (s : List UInt8) (a : Nat) (w : World) (c i : Value) (wr : World) : Prop :=
  ∃ (cs : List Int) (k' i' : Nat) (CA : Option Addr) (cc : Nat), cs.length + k' = 9 ∧ coefR s 9 (a + 1) [] = coefR s k' i' cs ∧ i' ≤ s.length + 1 ∧ i = .int .i64 (i' : Int) ∧ c = .slice CA cs.length cc ∧
    wr.ownsRow w.heap.size 3 1 (.slice CA cs.length cc) cs.length (cs.map (Value.int .i64)) ∧ Below w.heap.size w wr
def lenOf : Value → Nat
  | .slice _ n _ => n
  | _ => 0
-- plain: read's ways
theorem readR_out {s : List UInt8} {k a : Nat} {out : List Nd} (h : s.length ≤ a) : readR s (k + 1) a out = (out, none) := by rw [readR, if_pos h]
theorem readR_no {s : List UInt8} {k a : Nat} {out : List Nd} {cs : List Int} {i : Nat} (h : ¬ s.length ≤ a) (h40 : s[a]? = some 40) (hC : coefR s 9 (a + 1) [] = (cs, i)) (hX : ¬ (s.drop i).take 2 = [60, 32]) : readR s (k + 1) a out = (out, none) := by
  rw [readR, if_neg h, if_pos h40]; dsimp only; rw [hC]; dsimp only; rw [if_neg hX]
theorem readR_l0 {s : List UInt8} {k a : Nat} {out : List Nd} {n : Int} {e : Nat} (h : ¬ s.length ≤ a) (h40 : ¬ s[a]? = some 40) (hN : numR s a = (n, e)) (he : e = a) : readR s (k + 1) a out = (out, none) := by
  rw [readR, if_neg h, if_neg h40, hN]; dsimp only; rw [if_pos he]
theorem readR_l1 {s : List UInt8} {k a : Nat} {out : List Nd} {n : Int} {e : Nat} (h : ¬ s.length ≤ a) (h40 : ¬ s[a]? = some 40) (hN : numR s a = (n, e)) (he : ¬ e = a) : readR s (k + 1) a out = (out ++ [⟨[], 0, 0, 0, n⟩], some e) := by
  rw [readR, if_neg h, if_neg h40, hN]; dsimp only; rw [if_neg he]
theorem readR_f {s : List UInt8} {k a : Nat} {out : List Nd} {cs : List Int} {i : Nat} {n : Int} {e : Nat} {p : List Nd × Option Nat} (h : ¬ s.length ≤ a) (h40 : s[a]? = some 40) (hC : coefR s 9 (a + 1) [] = (cs, i)) (hX : (s.drop i).take 2 = [60, 32])
    (hN : numR s (i + 2) = (n, e)) (hp : readR s k (e + 1) (out ++ [⟨cs, n, (out.length : Int) + 1, 0, 0⟩]) = p) :
    readR s (k + 1) a out = match p.2 with
      | none => (p.1, none)
      | some e => match (readR s k (e + 1) p.1).2 with
        | none => ((readR s k (e + 1) p.1).1, none)
        | some f => (endM (readR s k (e + 1) p.1).1 out.length p.1.length, some (f + 1)) := by
  rw [readR, if_neg h, if_pos h40]; dsimp only; rw [hC]; dsimp only; rw [if_pos hX, hN]; dsimp only; rw [hp]; try rfl
theorem cut2 (s : List UInt8) (i : Nat) : (⟨s.toArray⟩ : ByteArray).extract i (i + 2) = ⟨((s.drop i).take 2).toArray⟩ := by
  apply ByteArray.ext
  simp
theorem numR_at {s : List UInt8} {a : Nat} {av : Int} (w : World) (hlen : s.length ≤ 1000000) (ha : a ≤ 1001000) (h : av = (a : Int)) {n : Int} {e : Nat} (hN : numR s a = (n, e)) :
    Calls Tryd.prog 47 #[.string ⟨s.toArray⟩, .int .i64 av] w fun r w' => r = .returned (.tuple #[.int .i64 n, .int .i64 (e : Int)]) ∧ w = w' := by
  subst h
  have := RNum_any s a w hlen ha
  rw [hN] at this
  exact this
set_option maxHeartbeats 8000000 in
set_option maxRecDepth 100000 in
theorem read_f9 (s : List UInt8) (hlen : s.length ≤ 1000000) (n0 k : Nat) (IH : ∀ (a : Nat) (av st : Int) (w : World) (v : Value) (rs : List (Value × Nd)), av = (a : Int) → st = (k : Int) - 1 → k ≤ 7 → a ≤ s.length + 20 → n0 ≤ w.heap.size → RS n0 v rs w → rs.length + 2 ^ k ≤ 1000 → Calls Tryd.prog 48 #[.string ⟨s.toArray⟩, .int .i64 av, .int .i64 st, v] w fun e w' => RdPost n0 (readR s k a (rs.map (·.2))) w v e w') (a : Nat) (w : World) (v : Value) (rs : List (Value × Nd)) (hk : k + 1 ≤ 7) (ha : a ≤ s.length + 20) (hn0 : n0 ≤ w.heap.size) (hRS : RS n0 v rs w) (hl : rs.length + 2 ^ (k + 1) ≤ 1000)
    (hal : ¬ s.length ≤ a) (hc0 : s[a]? = some 40) (h9 : (coefR s 9 (a + 1) []).1.length = 9) :
    Calls Tryd.prog 48 #[.string ⟨s.toArray⟩, .int .i64 (a : Int), .int .i64 (k : Int), v] w fun e w' => RdPost n0 (readR s (k + 1) a (rs.map (·.2))) w v e w' := by
  have H9 := Lib.hid h9
  clear h9
  have hp1 := Nat.one_le_two_pow (n := k)
  have hp2 : 2 ^ (k + 1) = 2 ^ k + 2 ^ k := by rw [Nat.pow_succ]; omega
  rw [hp2] at hl
  obtain ⟨OA, oc, rfl⟩ := slice_of_own hRS.own
  obtain ⟨on, hon⟩ : ∃ on, rs.length = on := ⟨_, rfl⟩
  have HON := Lib.hid hon
  have HMP := Lib.hid (show (rs.map (·.2)).length = on by simpa using hon)
  rw [hon] at hRS hl ⊢
  have HRS := Lib.hid hRS
  have hro := hRS.own
  rw [hon] at hro
  have HO := Lib.hid hro
  obtain ⟨sl, hsl⟩ : ∃ sl, s.length = sl := ⟨_, rfl⟩
  have HSL := Lib.hid hsl
  have hss : s.toArray.size = sl := by simpa using hsl
  have HIX := Lib.hid (fun (k : Nat) (c : UInt8) (hc : s[k]? = some c) (hh : k < (⟨s.toArray⟩ : ByteArray).size) => show (⟨s.toArray⟩ : ByteArray)[k]'hh = c from by
    obtain ⟨h1, h2⟩ := List.getElem?_eq_some_iff.1 hc
    exact h2)
  have HGL := Lib.hid (fun (k : Nat) (hk : k < sl) => (⟨_, List.getElem?_eq_getElem (by rw [hsl]; exact hk)⟩ : ∃ c, s[k]? = some c))
  have hlen' := hlen
  have HLEN := Lib.hid hlen
  rw [hsl] at hlen' ha
  have HIH := Lib.hid (fun a' av' st' W v' rs' x1 x2 x3 x4 x5 x6 => IH a' av' st' W v' rs' x1 x2 (by omega) x3 x4 x5 x6)
  clear IH hRS hro hon hsl hlen
  have hk0 : ¬ (k : Int) < 0 := by omega
  rw [HSL.out] at hal
  have hix0 := HIX.out a 40 hc0
  have hal2 : a < sl := by omega
  have hd : decide ((a : Int) ≥ (sl : Int)) = false := decide_eq_false (by omega)
  have FA := Lib.hid (show ¬ s.length ≤ a by rw [HSL.out]; exact hal)
  have F40 := Lib.hid hc0
  have H0 := Lib.hid (show CfRel s a w (.slice none 0 0) (.int .i64 ((a : Int) + 1)) w from ⟨[], 9, a + 1, none, 0, rfl, rfl, by rw [HSL.out]; omega, by congr 1, rfl, World.ownsRow_nil _ _ _ _, Below.refl _ _⟩)
  clear hc0
  go_enter Tryd.func48, Tryd.ntmps48
  go_wp2_with fail
  go_loopw [13, 14] (fun c i wr => CfRel s a w c i wr) (fun c _ _ => 9 - lenOf c)
  case atStart => exact H0.out
  case round =>
    obtain ⟨cs, k', i', CA, cc, hk9, hcf, hi', rfl, rfl, hrow, hbw⟩ := hrel
    obtain ⟨cl, hcl⟩ : ∃ cl, cs.length = cl := ⟨_, rfl⟩
    have HCL := Lib.hid hcl
    have HROW := Lib.hid hrow
    have HBW := Lib.hid hbw
    have HCF := Lib.hid hcf
    have hbz := hbw.size
    rw [HSL.out] at hi'
    rw [hcl] at hk9 HROW ⊢
    clear hcl hrow hbw hcf
    by_cases hk0' : k' = 0
    · have hC := HCF.out
      rw [hk0', coefR] at hC
      have HC := Lib.hid hC
      have hc9 : ¬ cl < 9 := by omega
      have hd9 : decide ((cl : Int) < 9) = false := decide_eq_false (by omega)
      clear hC
      by_cases h2 : sl < i' + 2
      · have F := Lib.hid (readR_no (k := k) (out := rs.map (·.2)) FA.out F40.out HC.out (by intro e; have := congrArg List.length e; rw [List.length_take, List.length_drop, HSL.out] at this; simp at this; omega))
        have hd2 : decide ((i' : Int) + 2 > (sl : Int)) = true := decide_eq_true (by omega)
        go_wp2_with fail
        go_ret2
        rw [F.out]
        exact ⟨_, rs, rfl, rfl, HRS.out.below HBW.out, KeepB.of_below _ HBW.out hn0⟩
      · have hd2 : decide ((i' : Int) + 2 > (sl : Int)) = false := decide_eq_false (by omega)
        have h2' : i' + 2 ≤ sl := by omega
        have hcut := cut2 s i'
        obtain ⟨X, hX⟩ : ∃ X, (s.drop i').take 2 = X := ⟨_, rfl⟩
        rw [hX] at hcut
        by_cases hXe : X = [60, 32]
        · have hXX := Lib.hid (hX.trans hXe)
          subst hXe
          obtain ⟨nn2, hnn2⟩ : ∃ nn2, numR s (i' + 2) = nn2 := ⟨_, rfl⟩
          obtain ⟨n2, e2⟩ := nn2
          have hnl2 := numR_le s (i' + 2)
          rw [hnn2, HSL.out] at hnl2
          dsimp only at hnl2
          have HN2 := Lib.hid hnn2
          have he2 : e2 ≤ sl := by
            by_cases hx : e2 = i' + 2
            · omega
            · exact hnl2.2.1 hx
          clear hnn2 hnl2 hX
          go_wp2_with fail
          refine (numR_at _ HLEN.out (by omega) (by omega) HN2.out).mono ?_
          rintro r w3 ⟨rfl, rfl⟩
          have HRW := Lib.hid (HRS.out.below HBW.out)
          have hOW := own_below HO.out HBW.out
          have HOW := Lib.hid hOW
          clear hOW
          go_wp2_with (at_builtin; refine app1 _ _ rfl (.tmp 96) (.tmp 103) _ rfl eltN n0 OA on oc (rs.flatMap ndC) rfl HOW.out rfl rfl (by simp [Value.oneCell']) (by omega) (by omega) ?_; intro A1 cap1 w4 hA)
          have HR4 := Lib.hid (HRW.out.app (cv := .slice CA cl cc) (nd := ⟨cs, n2, (on : Int) + 1, 0, 0⟩) HON.out hA (by dsimp only; rw [HCL.out]; exact own_low HROW.out hn0))
          have HK4 := Lib.hid ((KeepB.of_below (.slice OA on oc) HBW.out hn0).trans (KeepB.of_app hA))
          have hz4 := HK4.out.1.size
          clear hA
          obtain ⟨rs1, hrs1⟩ : ∃ rs1, rs ++ [((.slice CA cl cc : Value), (⟨cs, n2, (on : Int) + 1, 0, 0⟩ : Nd))] = rs1 := ⟨_, rfl⟩
          have hl1 : rs1.length = on + 1 := by rw [← hrs1]; simp [HON.out]
          have hm1 : rs1.map (·.2) = rs.map (·.2) ++ [⟨cs, n2, (((rs.map (·.2)).length : Nat) : Int) + 1, 0, 0⟩] := by rw [← hrs1, HMP.out]; simp
          rw [hrs1] at HR4
          have HM1 := Lib.hid hm1
          clear hm1 hrs1
          refine (HIH.out (e2 + 1) _ _ w4 (.slice A1 (on + 1) cap1) rs1 (by omega) (by omega) (by rw [HSL.out]; omega) (by omega) HR4.out (by rw [hl1]; omega)).mono ?_
          rintro r w5 ⟨v2, rs2, rfl, hm2, hRS2, hK2⟩
          obtain ⟨P, hP⟩ : ∃ P, readR s k (e2 + 1) (rs1.map (·.2)) = P := ⟨_, rfl⟩
          have F := Lib.hid (readR_f (k := k) (out := rs.map (·.2)) (p := P) FA.out F40.out HC.out hXX.out HN2.out (by rw [← HM1.out]; exact hP))
          obtain ⟨ns1, x1, x2, x3⟩ := readR_ext s k (e2 + 1) (rs1.map (·.2))
          have hple := readR_le s k (e2 + 1) (rs1.map (·.2))
          rw [hP] at hm2 x1 x3 hple ⊢
          have HM2 := Lib.hid hm2
          have HR5 := Lib.hid hRS2
          have HK5 := Lib.hid (HK4.out.trans hK2)
          have hl2 : rs2.length = on + 1 + ns1.length := by have := congrArg List.length hm2; rw [x1] at this; simpa [hl1] using this
          have hz5 := hK2.1.size
          clear hm2 hRS2 hK2 hP
          obtain ⟨P1, P2⟩ := P
          dsimp only at HM2 x1 x3 hple F ⊢
          cases P2 with
          | none =>
            go_wp2_with fail
            go_ret2
            rw [F.out]
            exact ⟨_, rs2, rfl, HM2.out, HR5.out, HK5.out⟩
          | some e3 =>
            have hx3 := x3 e3 rfl
            have he3 : e3 ≤ sl + 7 := by have := hple e3 rfl; rw [HSL.out] at this; omega
            have HX1 := Lib.hid x1
            clear x1 x3 hple
            have hlt3 : decide ((e3 : Int) < 0) = false := decide_eq_false (by omega)
            dsimp only [endI] at F ⊢
            obtain ⟨A2, c2, rfl⟩ := slice_of_own HR5.out.own
            obtain ⟨m2, hm2⟩ : ∃ m2, rs2.length = m2 := ⟨_, rfl⟩
            have HL2 := Lib.hid hm2
            rw [hm2] at hl2 HR5 HK5 ⊢
            have hm2b : on + 1 ≤ m2 := by omega
            have hm2c : m2 + 2 ^ k ≤ 1000 := by omega
            clear hm2 hl2
            go_wp2_with fail
            refine (HIH.out (e3 + 1) _ _ w5 (.slice A2 m2 c2) rs2 (by omega) (by omega) (by rw [HSL.out]; omega) (by omega) HR5.out (by rw [HL2.out]; omega)).mono ?_
            rintro r w6 ⟨v3, rs3, rfl, hm3, hRS3, hK3⟩
            rw [HM2.out] at hm3 ⊢
            obtain ⟨ns2, y1, y2, y3⟩ := readR_ext s k (e3 + 1) P1
            have hqle := readR_le s k (e3 + 1) P1
            obtain ⟨Q, hQ⟩ : ∃ Q, readR s k (e3 + 1) P1 = Q := ⟨_, rfl⟩
            rw [hQ] at hm3 y1 y3 hqle F ⊢
            have HM3 := Lib.hid hm3
            have HR6 := Lib.hid hRS3
            have HK6 := Lib.hid (HK5.out.trans hK3)
            have HP1 := Lib.hid (show P1.length = m2 by rw [← HM2.out]; simpa using HL2.out)
            have hl3 : rs3.length = m2 + ns2.length := by have := congrArg List.length hm3; rw [y1] at this; simpa [HP1.out] using this
            have HLL3 := Lib.hid hl3
            clear hm3 hRS3 hK3 hQ hl3
            obtain ⟨Q1, Q2⟩ := Q
            dsimp only at HM3 y1 y3 hqle F ⊢
            cases Q2 with
            | none =>
              go_wp2_with fail
              go_ret2
              rw [F.out]
              exact ⟨_, rs3, rfl, HM3.out, HR6.out, HK6.out⟩
            | some e4 =>
              have hy3 := y3 e4 rfl
              have he4 : e4 ≤ sl + 7 := by have := hqle e4 rfl; rw [HSL.out] at this; omega
              clear y1 y3 hqle
              have hlt4 : decide ((e4 : Int) < 0) = false := decide_eq_false (by omega)
              dsimp only [endI] at F ⊢
              obtain ⟨m3, hm3⟩ : ∃ m3, rs3.length = m3 := ⟨_, rfl⟩
              have HL3 := Lib.hid hm3
              have hown := HR6.out.own
              have hl3 := HLL3.out
              rw [hm3] at hown hl3
              obtain ⟨g3, c3, hv3, hg, hlt⟩ := hown.form (by omega)
              subst hv3
              obtain ⟨X0, hX0⟩ : ∃ x, rs3[on]? = some x := ⟨_, List.getElem?_eq_getElem (by omega)⟩
              obtain ⟨XL, hXL⟩ : ∃ x, rs3[on + 1]? = some x := ⟨_, List.getElem?_eq_getElem (by omega)⟩
              obtain ⟨XR, hXR⟩ : ∃ x, rs3[m2]? = some x := ⟨_, List.getElem?_eq_getElem (by omega)⟩
              have z3 := own_cell hown hX0 (o := 3) (u := .int .i64 X0.2.right) rfl
              have zf := own_free hown
              have hnm : on < m3 := by omega
              have HR7 := Lib.hid (HR6.out.set hm3 3 (by omega) (.int .i64 (m2 : Int)) { X0.2 with right := (m2 : Int) } on hX0 rfl rfl)
              have HK7 := Lib.hid (HK6.out.trans (KeepB.set (w := w6) (n := m3) (cap := c3) (o := on * 5 + 3) (Value.int .i64 (m2 : Int)) hg))
              have HX0 := Lib.hid hX0
              have HXL := Lib.hid hXL
              have HXR := Lib.hid hXR
              have hb31 : on + 1 < m2 + 1 := by omega
              have hb32 : m2 < m3 := by omega
              have hL1 : on + 1 < m3 := by omega
              have hm31 : m3 ≤ 1000 := by omega
              clear hown hm3 hX0 hXL hXR hl3
              go_wp2_with fail
              obtain ⟨rs4, hrs4⟩ : ∃ rs4, rs3.set on (X0.1, { X0.2 with right := (m2 : Int) }) = rs4 := ⟨_, rfl⟩
              obtain ⟨w7, hw7⟩ : ∃ W, w6.setCell ⟨g3, on * 5 + 3, none⟩ (.int .i64 (m2 : Int)) = W := ⟨_, rfl⟩
              rw [hrs4, hw7] at HR7
              rw [hw7] at HK7 ⊢
              have hl4 : rs4.length = m3 := by rw [← hrs4, List.length_set]; exact HL3.out
              have hY0 : rs4[on]? = some (X0.1, { X0.2 with right := (m2 : Int) }) := by rw [← hrs4]; exact List.getElem?_set_self (by rw [HL3.out]; exact hnm)
              have hYL : rs4[on + 1]? = some XL := by rw [← hrs4, List.getElem?_set_ne (by omega)]; exact HXL.out
              have hYR : rs4[m2]? = some XR := by rw [← hrs4, List.getElem?_set_ne (by omega)]; exact HXR.out
              clear hw7 z3 zf
              have hown := HR7.out.own
              rw [hl4] at hown
              have zl := own_cell hown hYL (o := 4) (u := .int .i64 XL.2.size) rfl
              have zr := own_cell hown hYR (o := 4) (u := .int .i64 XR.2.size) rfl
              have z0 := own_cell hown hY0 (o := 4) (u := .int .i64 X0.2.size) rfl
              have zf := own_free hown
              have HY0 := Lib.hid hY0
              have HYL := Lib.hid hYL
              have HYR := Lib.hid hYR
              have HL4 := Lib.hid hl4
              have HRS4 := Lib.hid hrs4
              clear hown hY0 hYL hYR hl4 hrs4
              have hi1 : ((on : Int) + 1) = ((on + 1 : Nat) : Int) := by omega
              have hwn1 : IntKind.i64.wrap ((on : Int) + 1) = ((on + 1 : Nat) : Int) := by rw [← hi1]; exact IntWalk.i64_in _ (by omega)
              clear hi1
              have hws : IntKind.i64.wrap (XL.2.size + XR.2.size) = wrap64 (XL.2.size + XR.2.size) := IntWalk.i64_left _
              obtain ⟨nl, hnl⟩ : ∃ nl, on + 1 = nl := ⟨_, rfl⟩
              rw [hnl] at hwn1 zl hL1 HYL
              have hnl2 : nl ≠ on := by omega
              have hmo2 : m2 ≠ on := by omega
              refine wp_region_held_drew (S := fun w' => w'.cell? ⟨g3, nl * 5 + 4, none⟩ = some (.int .i64 XL.2.size) ∧ w'.cell? ⟨g3, m2 * 5 + 4, none⟩ = some (.int .i64 XR.2.size) ∧ w'.frozen? ⟨g3, on * 5 + 4, none⟩ = false ∧ (∃ u, w'.cell? ⟨g3, on * 5 + 4, none⟩ = some u)) (by kernel_rfl) ⟨zl, zr, zf _, _, z0⟩ (fun hHeld => ?_)
              clear zl zr z0 zf
              refine wpAnyH_take (i := 0) (oi := ?oi0_1) (v := ?v0_1) ?hi0_1 (by kernel_rfl) ?hf0_1 (by kernel_rfl) ?hq0_1 ?hy0_1 hHeld ?rest0_1
              case hi0_1 => (simp only [List.getElem?_toArray, List.getElem?_cons_zero]; try exact rfl)
              case hf0_1 => kernel_rfl
              case hq0_1 => exact fun _ _ _ h => h
              case hy0_1 => (refine Or.inl ⟨rfl, ?_⟩; intro w hSw; (try dsimp only at hSw); go_simp; try with_reducible rfl)
              try simp only [Act.put, List.setIfInBounds_toArray, List.set_cons_zero, List.set_cons_succ]
              refine wpAnyH_take (i := 1) (oi := ?oi1_2) (v := ?v1_2) ?hi1_2 (by kernel_rfl) ?hf1_2 (by kernel_rfl) ?hq1_2 ?hy1_2 hHeld ?rest1_2
              case hi1_2 => (simp only [List.getElem?_toArray, List.getElem?_cons_succ, List.getElem?_cons_zero]; try exact rfl)
              case hf1_2 => kernel_rfl
              case hq1_2 => exact fun _ _ _ h => h
              case hy1_2 => (refine Or.inl ⟨rfl, ?_⟩; intro w hSw; (try dsimp only at hSw); go_simp; try with_reducible rfl)
              try simp only [Act.put, List.setIfInBounds_toArray, List.set_cons_zero, List.set_cons_succ]
              refine wpAnyH_take (i := 2) (oi := ?oi2_3) (v := ?v2_3) ?hi2_3 (by kernel_rfl) ?hf2_3 (by kernel_rfl) ?hq2_3 ?hy2_3 hHeld ?rest2_3
              case hi2_3 => (simp only [List.getElem?_toArray, List.getElem?_cons_succ, List.getElem?_cons_zero]; try exact rfl)
              case hf2_3 => kernel_rfl
              case hq2_3 => exact fun _ _ _ h => h
              case hy2_3 => (refine Or.inl ⟨rfl, ?_⟩; intro w hSw; (try dsimp only at hSw); go_simp; try with_reducible rfl)
              try simp only [Act.put, List.setIfInBounds_toArray, List.set_cons_zero, List.set_cons_succ]
              refine wpAnyH_take (i := 3) (oi := ?oi3_4) (v := ?v3_4) ?hi3_4 (by kernel_rfl) ?hf3_4 (by kernel_rfl) ?hq3_4 ?hy3_4 hHeld ?rest3_4
              case hi3_4 => (simp only [List.getElem?_toArray, List.getElem?_cons_succ, List.getElem?_cons_zero]; try exact rfl)
              case hf3_4 => kernel_rfl
              case hq3_4 => exact fun _ _ _ h => h
              case hy3_4 => (refine Or.inl ⟨rfl, ?_⟩; intro w hSw; (try dsimp only at hSw); go_simp; try with_reducible rfl)
              try simp only [Act.put, List.setIfInBounds_toArray, List.set_cons_zero, List.set_cons_succ]
              refine wpAnyH_take (i := 4) (oi := ?oi4_5) (v := ?v4_5) ?hi4_5 (by kernel_rfl) ?hf4_5 (by kernel_rfl) ?hq4_5 ?hy4_5 hHeld ?rest4_5
              case hi4_5 => (simp only [List.getElem?_toArray, List.getElem?_cons_succ, List.getElem?_cons_zero]; try exact rfl)
              case hf4_5 => kernel_rfl
              case hq4_5 => exact fun _ _ _ h => h
              case hy4_5 => (refine Or.inl ⟨rfl, ?_⟩; intro w hSw; (try dsimp only at hSw); go_simp; try with_reducible rfl)
              try simp only [Act.put, List.setIfInBounds_toArray, List.set_cons_zero, List.set_cons_succ]
              refine wpAnyH_take (i := 5) (oi := ?oi5_6) (v := ?v5_6) ?hi5_6 (by kernel_rfl) ?hf5_6 (by kernel_rfl) ?hq5_6 ?hy5_6 hHeld ?rest5_6
              case hi5_6 => (simp only [List.getElem?_toArray, List.getElem?_cons_succ, List.getElem?_cons_zero]; try exact rfl)
              case hf5_6 => kernel_rfl
              case hq5_6 => exact fun _ _ _ h => h
              case hy5_6 => (refine Or.inl ⟨rfl, ?_⟩; intro w hSw; (try dsimp only at hSw); go_simp; try with_reducible rfl)
              try simp only [Act.put, List.setIfInBounds_toArray, List.set_cons_zero, List.set_cons_succ]
              refine wpAnyH_take (i := 6) (oi := ?oi6_7) (v := ?v6_7) ?hi6_7 (by kernel_rfl) ?hf6_7 (by kernel_rfl) ?hq6_7 ?hy6_7 hHeld ?rest6_7
              case hi6_7 => (simp only [List.getElem?_toArray, List.getElem?_cons_succ, List.getElem?_cons_zero]; try exact rfl)
              case hf6_7 => kernel_rfl
              case hq6_7 => exact fun _ _ _ h => h
              case hy6_7 => (refine Or.inl ⟨rfl, ?_⟩; intro w hSw; (try dsimp only at hSw); go_simp; try with_reducible rfl)
              try simp only [Act.put, List.setIfInBounds_toArray, List.set_cons_zero, List.set_cons_succ]
              refine wpAnyH_take (i := 7) (oi := ?oi7_8) (v := ?v7_8) ?hi7_8 (by kernel_rfl) ?hf7_8 (by kernel_rfl) ?hq7_8 ?hy7_8 hHeld ?rest7_8
              case hi7_8 => (simp only [List.getElem?_toArray, List.getElem?_cons_succ, List.getElem?_cons_zero]; try exact rfl)
              case hf7_8 => kernel_rfl
              case hq7_8 => exact fun _ _ _ h => h
              case hy7_8 => (refine Or.inl ⟨rfl, ?_⟩; intro w hSw; (try dsimp only at hSw); go_simp; try with_reducible rfl)
              try simp only [Act.put, List.setIfInBounds_toArray, List.set_cons_zero, List.set_cons_succ]
              refine wpAnyH_take (i := 8) (oi := ?oi8_9) (v := ?v8_9) ?hi8_9 (by kernel_rfl) ?hf8_9 (by kernel_rfl) ?hq8_9 ?hy8_9 hHeld ?rest8_9
              case hi8_9 => (simp only [List.getElem?_toArray, List.getElem?_cons_succ, List.getElem?_cons_zero]; try exact rfl)
              case hf8_9 => kernel_rfl
              case hq8_9 => exact fun _ _ _ h => h
              case hy8_9 => (refine Or.inl ⟨rfl, ?_⟩; intro w hSw; (try dsimp only at hSw); go_simp; try with_reducible rfl)
              try simp only [Act.put, List.setIfInBounds_toArray, List.set_cons_zero, List.set_cons_succ]
              refine wpAnyH_take (i := 9) (oi := ?oi9_10) (v := ?v9_10) ?hi9_10 (by kernel_rfl) ?hf9_10 (by kernel_rfl) ?hq9_10 ?hy9_10 hHeld ?rest9_10
              case hi9_10 => (simp only [List.getElem?_toArray, List.getElem?_cons_succ, List.getElem?_cons_zero]; try exact rfl)
              case hf9_10 => kernel_rfl
              case hq9_10 => exact fun _ _ _ h => h
              case hy9_10 => (refine Or.inl ⟨rfl, ?_⟩; intro w hSw; (try dsimp only at hSw); go_simp; try with_reducible rfl)
              try simp only [Act.put, List.setIfInBounds_toArray, List.set_cons_zero, List.set_cons_succ]
              refine wpAnyH_take (i := 10) (oi := ?oi10_11) (v := ?v10_11) ?hi10_11 (by kernel_rfl) ?hf10_11 (by kernel_rfl) ?hq10_11 ?hy10_11 hHeld ?rest10_11
              case hi10_11 => (simp only [List.getElem?_toArray, List.getElem?_cons_succ, List.getElem?_cons_zero]; try exact rfl)
              case hf10_11 => kernel_rfl
              case hq10_11 => exact fun _ _ _ h => h
              case hy10_11 => (refine Or.inl ⟨rfl, ?_⟩; intro w hSw; (try dsimp only at hSw); go_simp; try with_reducible rfl)
              try simp only [Act.put, List.setIfInBounds_toArray, List.set_cons_zero, List.set_cons_succ]
              refine wpAnyH_take (i := 11) (oi := ?oi11_12) (v := ?v11_12) ?hi11_12 (by kernel_rfl) ?hf11_12 (by kernel_rfl) ?hq11_12 ?hy11_12 hHeld ?rest11_12
              case hi11_12 => (simp only [List.getElem?_toArray, List.getElem?_cons_succ, List.getElem?_cons_zero]; try exact rfl)
              case hf11_12 => kernel_rfl
              case hq11_12 => exact fun _ _ _ h => h
              case hy11_12 => (refine Or.inl ⟨rfl, ?_⟩; intro w hSw; (try dsimp only at hSw); go_simp; try with_reducible rfl)
              try simp only [Act.put, List.setIfInBounds_toArray, List.set_cons_zero, List.set_cons_succ]
              refine wpAnyH_take (i := 12) (oi := ?oi12_13) (v := ?v12_13) ?hi12_13 (by kernel_rfl) ?hf12_13 (by kernel_rfl) ?hq12_13 ?hy12_13 hHeld ?rest12_13
              case hi12_13 => (simp only [List.getElem?_toArray, List.getElem?_cons_succ, List.getElem?_cons_zero]; try exact rfl)
              case hf12_13 => kernel_rfl
              case hq12_13 => exact fun _ _ _ h => h
              case hy12_13 => (refine Or.inl ⟨rfl, ?_⟩; intro w hSw; (try dsimp only at hSw); go_simp; try with_reducible rfl)
              try simp only [Act.put, List.setIfInBounds_toArray, List.set_cons_zero, List.set_cons_succ]
              refine wpAnyH_take (i := 13) (oi := ?oi13_14) (v := ?v13_14) ?hi13_14 (by kernel_rfl) ?hf13_14 (by kernel_rfl) ?hq13_14 ?hy13_14 hHeld ?rest13_14
              case hi13_14 => (simp only [List.getElem?_toArray, List.getElem?_cons_succ, List.getElem?_cons_zero]; try exact rfl)
              case hf13_14 => kernel_rfl
              case hq13_14 => exact fun _ _ _ h => h
              case hy13_14 => (refine Or.inl ⟨rfl, ?_⟩; intro w hSw; (try dsimp only at hSw); go_simp; try with_reducible rfl)
              try simp only [Act.put, List.setIfInBounds_toArray, List.set_cons_zero, List.set_cons_succ]
              refine wpAnyH_take (i := 14) (oi := ?oi14_15) (v := ?v14_15) ?hi14_15 (by kernel_rfl) ?hf14_15 (by kernel_rfl) ?hq14_15 ?hy14_15 hHeld ?rest14_15
              case hi14_15 => (simp only [List.getElem?_toArray, List.getElem?_cons_succ, List.getElem?_cons_zero]; try exact rfl)
              case hf14_15 => kernel_rfl
              case hq14_15 => exact fun _ _ _ h => h
              case hy14_15 => (refine Or.inl ⟨rfl, ?_⟩; intro w hSw; (try dsimp only at hSw); go_simp; try with_reducible rfl)
              try simp only [Act.put, List.setIfInBounds_toArray, List.set_cons_zero, List.set_cons_succ]
              refine wpAnyH_take (i := 15) (oi := ?oi15_16) (v := ?v15_16) ?hi15_16 (by kernel_rfl) ?hf15_16 (by kernel_rfl) ?hq15_16 ?hy15_16 hHeld ?rest15_16
              case hi15_16 => (simp only [List.getElem?_toArray, List.getElem?_cons_succ, List.getElem?_cons_zero]; try exact rfl)
              case hf15_16 => kernel_rfl
              case hq15_16 => exact fun _ _ _ h => h
              case hy15_16 => (refine Or.inl ⟨rfl, ?_⟩; intro w hSw; (try dsimp only at hSw); go_simp; try with_reducible rfl)
              try simp only [Act.put, List.setIfInBounds_toArray, List.set_cons_zero, List.set_cons_succ]
              refine wpAnyH_ready (rs := [16]) (by kernel_rfl) (by simp) ?_
              refine AllReadyH.cons (by simp only [List.getElem?_toArray, List.getElem?_cons_succ, List.getElem?_cons_zero]; try exact rfl) (fun K hK => ?_) AllReadyH.nil
              obtain ⟨e1', e2', e3', ⟨u, e4'⟩⟩ := hHeld
              go_simp
              have hR8 : RS n0 (.slice (some ⟨g3, 0, none⟩) m3 c3) (rs4.set on (X0.1, { X0.2 with right := (m2 : Int), size := wrap64 (XL.2.size + XR.2.size) })) (w7.drew.setCell ⟨g3, on * 5 + 4, none⟩ (.int .i64 (wrap64 (XL.2.size + XR.2.size)))) := (HR7.out.set HL4.out 4 (by omega) (.int .i64 (wrap64 (XL.2.size + XR.2.size))) { X0.2 with right := (m2 : Int), size := wrap64 (XL.2.size + XR.2.size) } on HY0.out rfl rfl).below (Below.refl _ _).drew
              have hl5 : (rs4.set on (X0.1, { X0.2 with right := (m2 : Int), size := wrap64 (XL.2.size + XR.2.size) })).length = m3 := by rw [List.length_set]; exact HL4.out
              have hown := hR8.own
              rw [hl5] at hown
              have HR8 := Lib.hid hR8
              have HK8 := Lib.hid (HK7.out.trans ((KeepB.of_below (.slice (some ⟨g3, 0, none⟩) m3 c3) (Below.refl w7.heap.size w7).drew (by have := HK7.out.1.size; omega)).trans (KeepB.set (w := w7.drew) (n := m3) (cap := c3) (o := on * 5 + 4) (Value.int .i64 (wrap64 (XL.2.size + XR.2.size))) hg)))
              refine hK.out _ _ ⟨own_cell hown (x := XL) (by rw [List.getElem?_set_ne (by omega)]; exact HYL.out) (o := 4) rfl, own_cell hown (x := XR) (by rw [List.getElem?_set_ne (by omega)]; exact HYR.out) (o := 4) rfl, own_free hown _, _, own_cell hown (List.getElem?_set_self (by rw [HL4.out]; exact hnm)) (o := 4) rfl⟩ (fun hHeld => ?_)
              clear hK K hR8 hown hHeld e1' e2' e3' e4'
              try simp only [Act.put, List.setIfInBounds_toArray, List.set_cons_zero, List.set_cons_succ]
              refine wpAnyH_done (by kernel_rfl) ?_ _
              go_wp2_with fail
              go_ret2
              rw [F.out]
              refine ⟨_, _, by first | rfl | (dsimp only [endI]; congr 3; omega), ?_, HR8.out, HK8.out⟩
              rw [HMP.out, HP1.out, ← HM3.out, endM_eq (get_map HX0.out) (get_map (by rw [hnl]; rw [← hnl]; exact HXL.out)) (get_map HXR.out), ← HRS4.out, List.set_set, List.map_set]
        · have hXn := Lib.hid (show ¬ (s.drop i').take 2 = [60, 32] from fun e => hXe (hX.symm.trans e))
          have F := Lib.hid (readR_no (k := k) (out := rs.map (·.2)) FA.out F40.out HC.out hXn.out)
          have hbx : (X == [60, 32]) = false := beq_eq_false_iff_ne.2 hXe
          have hbn : (X != [60, 32]) = true := bne_iff_ne.2 hXe
          clear hX
          go_wp2_with fail
          go_ret2
          rw [F.out]
          exact ⟨_, rs, rfl, rfl, HRS.out.below HBW.out, KeepB.of_below _ HBW.out hn0⟩
    · obtain ⟨j, rfl⟩ : ∃ j, k' = j + 1 := ⟨k' - 1, by omega⟩
      have hc9 : cl < 9 := by omega
      have hd9 : decide ((cl : Int) < 9) = true := decide_eq_true (by omega)
      obtain ⟨nn, hnn⟩ : ∃ nn, numR s i' = nn := ⟨_, rfl⟩
      obtain ⟨n, e⟩ := nn
      have hnl := numR_le s i'
      rw [hnn] at hnl
      dsimp only at hnl
      have hC := HCF.out
      rw [show coefR s (j + 1) i' cs = if (numR s i').2 = i' then (cs, i') else coefR s j ((numR s i').2 + 1) (cs ++ [(numR s i').1]) from rfl, hnn] at hC
      dsimp only at hC
      have HNN := Lib.hid hnn
      clear hnn
      go_wp2_with fail
      refine (numR_at _ HLEN.out (by omega) rfl HNN.out).mono ?_
      rintro r w1 ⟨rfl, rfl⟩
      by_cases hei : e = i'
      · rw [if_pos hei] at hC
        exact absurd H9.out (by rw [hC]; (try dsimp only); rw [HCL.out]; omega)
      · rw [if_neg hei] at hC
        have HC := Lib.hid hC
        have hee : ((e : Int) == (i' : Int)) = false := beq_eq_false_iff_ne.2 (by omega)
        have hel : e ≤ sl := by have := hnl.2.1 hei; rw [HSL.out] at this; exact this
        clear hC hnl
        go_wp2_with (at_builtin; refine app1 _ _ rfl (.tmp 69) (.tmp 71) _ rfl eltI w.heap.size CA cl cc (cs.map (Value.int .i64)) rfl HROW.out rfl rfl (by simp [Value.oneCell']) (by omega) (by omega) ?_; intro A' cap' w2 hA)
        refine ⟨⟨cs ++ [n], j, e + 1, A', cap', by simp; rw [HCL.out]; omega, by rw [HC.out], by rw [HSL.out]; omega, by first | rfl | go_num, by simp [HCL.out], ?_, HBW.out.trans hA.below⟩, by simp [lenOf]; omega⟩
        have := hA.own
        simpa [HCL.out] using this
set_option maxHeartbeats 8000000 in
set_option maxRecDepth 100000 in
theorem read_fb (s : List UInt8) (hlen : s.length ≤ 1000000) (n0 k : Nat) (IH : ∀ (a : Nat) (av st : Int) (w : World) (v : Value) (rs : List (Value × Nd)), av = (a : Int) → st = (k : Int) - 1 → k ≤ 7 → a ≤ s.length + 20 → n0 ≤ w.heap.size → RS n0 v rs w → rs.length + 2 ^ k ≤ 1000 → Calls Tryd.prog 48 #[.string ⟨s.toArray⟩, .int .i64 av, .int .i64 st, v] w fun e w' => RdPost n0 (readR s k a (rs.map (·.2))) w v e w') (a : Nat) (w : World) (v : Value) (rs : List (Value × Nd)) (hk : k + 1 ≤ 7) (ha : a ≤ s.length + 20) (hn0 : n0 ≤ w.heap.size) (hRS : RS n0 v rs w) (hl : rs.length + 2 ^ (k + 1) ≤ 1000)
    (hal : ¬ s.length ≤ a) (hc0 : s[a]? = some 40) (h9 : (coefR s 9 (a + 1) []).1.length ≠ 9) :
    Calls Tryd.prog 48 #[.string ⟨s.toArray⟩, .int .i64 (a : Int), .int .i64 (k : Int), v] w fun e w' => RdPost n0 (readR s (k + 1) a (rs.map (·.2))) w v e w' := by
  have H9 := Lib.hid h9
  clear h9
  have hp1 := Nat.one_le_two_pow (n := k)
  have hp2 : 2 ^ (k + 1) = 2 ^ k + 2 ^ k := by rw [Nat.pow_succ]; omega
  rw [hp2] at hl
  obtain ⟨OA, oc, rfl⟩ := slice_of_own hRS.own
  obtain ⟨on, hon⟩ : ∃ on, rs.length = on := ⟨_, rfl⟩
  have HON := Lib.hid hon
  have HMP := Lib.hid (show (rs.map (·.2)).length = on by simpa using hon)
  rw [hon] at hRS hl ⊢
  have HRS := Lib.hid hRS
  have hro := hRS.own
  rw [hon] at hro
  have HO := Lib.hid hro
  obtain ⟨sl, hsl⟩ : ∃ sl, s.length = sl := ⟨_, rfl⟩
  have HSL := Lib.hid hsl
  have hss : s.toArray.size = sl := by simpa using hsl
  have HIX := Lib.hid (fun (k : Nat) (c : UInt8) (hc : s[k]? = some c) (hh : k < (⟨s.toArray⟩ : ByteArray).size) => show (⟨s.toArray⟩ : ByteArray)[k]'hh = c from by
    obtain ⟨h1, h2⟩ := List.getElem?_eq_some_iff.1 hc
    exact h2)
  have HGL := Lib.hid (fun (k : Nat) (hk : k < sl) => (⟨_, List.getElem?_eq_getElem (by rw [hsl]; exact hk)⟩ : ∃ c, s[k]? = some c))
  have hlen' := hlen
  have HLEN := Lib.hid hlen
  rw [hsl] at hlen' ha
  have HIH := Lib.hid (fun a' av' st' W v' rs' x1 x2 x3 x4 x5 x6 => IH a' av' st' W v' rs' x1 x2 (by omega) x3 x4 x5 x6)
  clear IH hRS hro hon hsl hlen
  have hk0 : ¬ (k : Int) < 0 := by omega
  rw [HSL.out] at hal
  have hix0 := HIX.out a 40 hc0
  have hal2 : a < sl := by omega
  have hd : decide ((a : Int) ≥ (sl : Int)) = false := decide_eq_false (by omega)
  have FA := Lib.hid (show ¬ s.length ≤ a by rw [HSL.out]; exact hal)
  have F40 := Lib.hid hc0
  have H0 := Lib.hid (show CfRel s a w (.slice none 0 0) (.int .i64 ((a : Int) + 1)) w from ⟨[], 9, a + 1, none, 0, rfl, rfl, by rw [HSL.out]; omega, by congr 1, rfl, World.ownsRow_nil _ _ _ _, Below.refl _ _⟩)
  clear hc0
  go_enter Tryd.func48, Tryd.ntmps48
  go_wp2_with fail
  go_loopw [13, 14] (fun c i wr => CfRel s a w c i wr) (fun c _ _ => 9 - lenOf c)
  case atStart => exact H0.out
  case round =>
    obtain ⟨cs, k', i', CA, cc, hk9, hcf, hi', rfl, rfl, hrow, hbw⟩ := hrel
    obtain ⟨cl, hcl⟩ : ∃ cl, cs.length = cl := ⟨_, rfl⟩
    have HCL := Lib.hid hcl
    have HROW := Lib.hid hrow
    have HBW := Lib.hid hbw
    have HCF := Lib.hid hcf
    have hbz := hbw.size
    rw [HSL.out] at hi'
    rw [hcl] at hk9 HROW ⊢
    clear hcl hrow hbw hcf
    by_cases hk0' : k' = 0
    · have hC := HCF.out
      rw [hk0', coefR] at hC
      exact absurd (by rw [hC]; (try dsimp only); rw [HCL.out]; omega) H9.out
    · obtain ⟨j, rfl⟩ : ∃ j, k' = j + 1 := ⟨k' - 1, by omega⟩
      have hc9 : cl < 9 := by omega
      have hd9 : decide ((cl : Int) < 9) = true := decide_eq_true (by omega)
      obtain ⟨nn, hnn⟩ : ∃ nn, numR s i' = nn := ⟨_, rfl⟩
      obtain ⟨n, e⟩ := nn
      have hnl := numR_le s i'
      rw [hnn] at hnl
      dsimp only at hnl
      have hC := HCF.out
      rw [show coefR s (j + 1) i' cs = if (numR s i').2 = i' then (cs, i') else coefR s j ((numR s i').2 + 1) (cs ++ [(numR s i').1]) from rfl, hnn] at hC
      dsimp only at hC
      have HNN := Lib.hid hnn
      clear hnn
      go_wp2_with fail
      refine (numR_at _ HLEN.out (by omega) rfl HNN.out).mono ?_
      rintro r w1 ⟨rfl, rfl⟩
      by_cases hei : e = i'
      · rw [if_pos hei] at hC
        have HC := Lib.hid hC
        have hee : ((e : Int) == (i' : Int)) = true := beq_iff_eq.2 (by omega)
        clear hC hnl
        by_cases h2 : sl < i' + 2
        · have F := Lib.hid (readR_no (k := k) (out := rs.map (·.2)) FA.out F40.out HC.out (by intro e; have := congrArg List.length e; rw [List.length_take, List.length_drop, HSL.out] at this; simp at this; omega))
          have hd2 : decide ((i' : Int) + 2 > (sl : Int)) = true := decide_eq_true (by omega)
          go_wp2_with fail
          go_ret2
          rw [F.out]
          exact ⟨_, rs, rfl, rfl, HRS.out.below HBW.out, KeepB.of_below _ HBW.out hn0⟩
        · have hd2 : decide ((i' : Int) + 2 > (sl : Int)) = false := decide_eq_false (by omega)
          have h2' : i' + 2 ≤ sl := by omega
          have hcut := cut2 s i'
          obtain ⟨X, hX⟩ : ∃ X, (s.drop i').take 2 = X := ⟨_, rfl⟩
          rw [hX] at hcut
          by_cases hXe : X = [60, 32]
          · have hXX := Lib.hid (hX.trans hXe)
            subst hXe
            obtain ⟨nn2, hnn2⟩ : ∃ nn2, numR s (i' + 2) = nn2 := ⟨_, rfl⟩
            obtain ⟨n2, e2⟩ := nn2
            have hnl2 := numR_le s (i' + 2)
            rw [hnn2, HSL.out] at hnl2
            dsimp only at hnl2
            have HN2 := Lib.hid hnn2
            have he2 : e2 ≤ sl := by
              by_cases hx : e2 = i' + 2
              · omega
              · exact hnl2.2.1 hx
            clear hnn2 hnl2 hX
            go_wp2_with fail
            refine (numR_at _ HLEN.out (by omega) (by omega) HN2.out).mono ?_
            rintro r w3 ⟨rfl, rfl⟩
            have HRW := Lib.hid (HRS.out.below HBW.out)
            have hOW := own_below HO.out HBW.out
            have HOW := Lib.hid hOW
            clear hOW
            go_wp2_with (at_builtin; refine app1 _ _ rfl (.tmp 96) (.tmp 103) _ rfl eltN n0 OA on oc (rs.flatMap ndC) rfl HOW.out rfl rfl (by simp [Value.oneCell']) (by omega) (by omega) ?_; intro A1 cap1 w4 hA)
            have HR4 := Lib.hid (HRW.out.app (cv := .slice CA cl cc) (nd := ⟨cs, n2, (on : Int) + 1, 0, 0⟩) HON.out hA (by dsimp only; rw [HCL.out]; exact own_low HROW.out hn0))
            have HK4 := Lib.hid ((KeepB.of_below (.slice OA on oc) HBW.out hn0).trans (KeepB.of_app hA))
            have hz4 := HK4.out.1.size
            clear hA
            obtain ⟨rs1, hrs1⟩ : ∃ rs1, rs ++ [((.slice CA cl cc : Value), (⟨cs, n2, (on : Int) + 1, 0, 0⟩ : Nd))] = rs1 := ⟨_, rfl⟩
            have hl1 : rs1.length = on + 1 := by rw [← hrs1]; simp [HON.out]
            have hm1 : rs1.map (·.2) = rs.map (·.2) ++ [⟨cs, n2, (((rs.map (·.2)).length : Nat) : Int) + 1, 0, 0⟩] := by rw [← hrs1, HMP.out]; simp
            rw [hrs1] at HR4
            have HM1 := Lib.hid hm1
            clear hm1 hrs1
            refine (HIH.out (e2 + 1) _ _ w4 (.slice A1 (on + 1) cap1) rs1 (by omega) (by omega) (by rw [HSL.out]; omega) (by omega) HR4.out (by rw [hl1]; omega)).mono ?_
            rintro r w5 ⟨v2, rs2, rfl, hm2, hRS2, hK2⟩
            obtain ⟨P, hP⟩ : ∃ P, readR s k (e2 + 1) (rs1.map (·.2)) = P := ⟨_, rfl⟩
            have F := Lib.hid (readR_f (k := k) (out := rs.map (·.2)) (p := P) FA.out F40.out HC.out hXX.out HN2.out (by rw [← HM1.out]; exact hP))
            obtain ⟨ns1, x1, x2, x3⟩ := readR_ext s k (e2 + 1) (rs1.map (·.2))
            have hple := readR_le s k (e2 + 1) (rs1.map (·.2))
            rw [hP] at hm2 x1 x3 hple ⊢
            have HM2 := Lib.hid hm2
            have HR5 := Lib.hid hRS2
            have HK5 := Lib.hid (HK4.out.trans hK2)
            have hl2 : rs2.length = on + 1 + ns1.length := by have := congrArg List.length hm2; rw [x1] at this; simpa [hl1] using this
            have hz5 := hK2.1.size
            clear hm2 hRS2 hK2 hP
            obtain ⟨P1, P2⟩ := P
            dsimp only at HM2 x1 x3 hple F ⊢
            cases P2 with
            | none =>
              go_wp2_with fail
              go_ret2
              rw [F.out]
              exact ⟨_, rs2, rfl, HM2.out, HR5.out, HK5.out⟩
            | some e3 =>
              have hx3 := x3 e3 rfl
              have he3 : e3 ≤ sl + 7 := by have := hple e3 rfl; rw [HSL.out] at this; omega
              have HX1 := Lib.hid x1
              clear x1 x3 hple
              have hlt3 : decide ((e3 : Int) < 0) = false := decide_eq_false (by omega)
              dsimp only [endI] at F ⊢
              obtain ⟨A2, c2, rfl⟩ := slice_of_own HR5.out.own
              obtain ⟨m2, hm2⟩ : ∃ m2, rs2.length = m2 := ⟨_, rfl⟩
              have HL2 := Lib.hid hm2
              rw [hm2] at hl2 HR5 HK5 ⊢
              have hm2b : on + 1 ≤ m2 := by omega
              have hm2c : m2 + 2 ^ k ≤ 1000 := by omega
              clear hm2 hl2
              go_wp2_with fail
              refine (HIH.out (e3 + 1) _ _ w5 (.slice A2 m2 c2) rs2 (by omega) (by omega) (by rw [HSL.out]; omega) (by omega) HR5.out (by rw [HL2.out]; omega)).mono ?_
              rintro r w6 ⟨v3, rs3, rfl, hm3, hRS3, hK3⟩
              rw [HM2.out] at hm3 ⊢
              obtain ⟨ns2, y1, y2, y3⟩ := readR_ext s k (e3 + 1) P1
              have hqle := readR_le s k (e3 + 1) P1
              obtain ⟨Q, hQ⟩ : ∃ Q, readR s k (e3 + 1) P1 = Q := ⟨_, rfl⟩
              rw [hQ] at hm3 y1 y3 hqle F ⊢
              have HM3 := Lib.hid hm3
              have HR6 := Lib.hid hRS3
              have HK6 := Lib.hid (HK5.out.trans hK3)
              have HP1 := Lib.hid (show P1.length = m2 by rw [← HM2.out]; simpa using HL2.out)
              have hl3 : rs3.length = m2 + ns2.length := by have := congrArg List.length hm3; rw [y1] at this; simpa [HP1.out] using this
              have HLL3 := Lib.hid hl3
              clear hm3 hRS3 hK3 hQ hl3
              obtain ⟨Q1, Q2⟩ := Q
              dsimp only at HM3 y1 y3 hqle F ⊢
              cases Q2 with
              | none =>
                go_wp2_with fail
                go_ret2
                rw [F.out]
                exact ⟨_, rs3, rfl, HM3.out, HR6.out, HK6.out⟩
              | some e4 =>
                have hy3 := y3 e4 rfl
                have he4 : e4 ≤ sl + 7 := by have := hqle e4 rfl; rw [HSL.out] at this; omega
                clear y1 y3 hqle
                have hlt4 : decide ((e4 : Int) < 0) = false := decide_eq_false (by omega)
                dsimp only [endI] at F ⊢
                obtain ⟨m3, hm3⟩ : ∃ m3, rs3.length = m3 := ⟨_, rfl⟩
                have HL3 := Lib.hid hm3
                have hown := HR6.out.own
                have hl3 := HLL3.out
                rw [hm3] at hown hl3
                obtain ⟨g3, c3, hv3, hg, hlt⟩ := hown.form (by omega)
                subst hv3
                obtain ⟨X0, hX0⟩ : ∃ x, rs3[on]? = some x := ⟨_, List.getElem?_eq_getElem (by omega)⟩
                obtain ⟨XL, hXL⟩ : ∃ x, rs3[on + 1]? = some x := ⟨_, List.getElem?_eq_getElem (by omega)⟩
                obtain ⟨XR, hXR⟩ : ∃ x, rs3[m2]? = some x := ⟨_, List.getElem?_eq_getElem (by omega)⟩
                have z3 := own_cell hown hX0 (o := 3) (u := .int .i64 X0.2.right) rfl
                have zf := own_free hown
                have hnm : on < m3 := by omega
                have HR7 := Lib.hid (HR6.out.set hm3 3 (by omega) (.int .i64 (m2 : Int)) { X0.2 with right := (m2 : Int) } on hX0 rfl rfl)
                have HK7 := Lib.hid (HK6.out.trans (KeepB.set (w := w6) (n := m3) (cap := c3) (o := on * 5 + 3) (Value.int .i64 (m2 : Int)) hg))
                have HX0 := Lib.hid hX0
                have HXL := Lib.hid hXL
                have HXR := Lib.hid hXR
                have hb31 : on + 1 < m2 + 1 := by omega
                have hb32 : m2 < m3 := by omega
                have hL1 : on + 1 < m3 := by omega
                have hm31 : m3 ≤ 1000 := by omega
                clear hown hm3 hX0 hXL hXR hl3
                go_wp2_with fail
                obtain ⟨rs4, hrs4⟩ : ∃ rs4, rs3.set on (X0.1, { X0.2 with right := (m2 : Int) }) = rs4 := ⟨_, rfl⟩
                obtain ⟨w7, hw7⟩ : ∃ W, w6.setCell ⟨g3, on * 5 + 3, none⟩ (.int .i64 (m2 : Int)) = W := ⟨_, rfl⟩
                rw [hrs4, hw7] at HR7
                rw [hw7] at HK7 ⊢
                have hl4 : rs4.length = m3 := by rw [← hrs4, List.length_set]; exact HL3.out
                have hY0 : rs4[on]? = some (X0.1, { X0.2 with right := (m2 : Int) }) := by rw [← hrs4]; exact List.getElem?_set_self (by rw [HL3.out]; exact hnm)
                have hYL : rs4[on + 1]? = some XL := by rw [← hrs4, List.getElem?_set_ne (by omega)]; exact HXL.out
                have hYR : rs4[m2]? = some XR := by rw [← hrs4, List.getElem?_set_ne (by omega)]; exact HXR.out
                clear hw7 z3 zf
                have hown := HR7.out.own
                rw [hl4] at hown
                have zl := own_cell hown hYL (o := 4) (u := .int .i64 XL.2.size) rfl
                have zr := own_cell hown hYR (o := 4) (u := .int .i64 XR.2.size) rfl
                have z0 := own_cell hown hY0 (o := 4) (u := .int .i64 X0.2.size) rfl
                have zf := own_free hown
                have HY0 := Lib.hid hY0
                have HYL := Lib.hid hYL
                have HYR := Lib.hid hYR
                have HL4 := Lib.hid hl4
                have HRS4 := Lib.hid hrs4
                clear hown hY0 hYL hYR hl4 hrs4
                have hi1 : ((on : Int) + 1) = ((on + 1 : Nat) : Int) := by omega
                have hwn1 : IntKind.i64.wrap ((on : Int) + 1) = ((on + 1 : Nat) : Int) := by rw [← hi1]; exact IntWalk.i64_in _ (by omega)
                clear hi1
                have hws : IntKind.i64.wrap (XL.2.size + XR.2.size) = wrap64 (XL.2.size + XR.2.size) := IntWalk.i64_left _
                obtain ⟨nl, hnl⟩ : ∃ nl, on + 1 = nl := ⟨_, rfl⟩
                rw [hnl] at hwn1 zl hL1 HYL
                have hnl2 : nl ≠ on := by omega
                have hmo2 : m2 ≠ on := by omega
                refine wp_region_held_drew (S := fun w' => w'.cell? ⟨g3, nl * 5 + 4, none⟩ = some (.int .i64 XL.2.size) ∧ w'.cell? ⟨g3, m2 * 5 + 4, none⟩ = some (.int .i64 XR.2.size) ∧ w'.frozen? ⟨g3, on * 5 + 4, none⟩ = false ∧ (∃ u, w'.cell? ⟨g3, on * 5 + 4, none⟩ = some u)) (by kernel_rfl) ⟨zl, zr, zf _, _, z0⟩ (fun hHeld => ?_)
                clear zl zr z0 zf
                refine wpAnyH_take (i := 0) (oi := ?oi0_17) (v := ?v0_17) ?hi0_17 (by kernel_rfl) ?hf0_17 (by kernel_rfl) ?hq0_17 ?hy0_17 hHeld ?rest0_17
                case hi0_17 => (simp only [List.getElem?_toArray, List.getElem?_cons_zero]; try exact rfl)
                case hf0_17 => kernel_rfl
                case hq0_17 => exact fun _ _ _ h => h
                case hy0_17 => (refine Or.inl ⟨rfl, ?_⟩; intro w hSw; (try dsimp only at hSw); go_simp; try with_reducible rfl)
                try simp only [Act.put, List.setIfInBounds_toArray, List.set_cons_zero, List.set_cons_succ]
                refine wpAnyH_take (i := 1) (oi := ?oi1_18) (v := ?v1_18) ?hi1_18 (by kernel_rfl) ?hf1_18 (by kernel_rfl) ?hq1_18 ?hy1_18 hHeld ?rest1_18
                case hi1_18 => (simp only [List.getElem?_toArray, List.getElem?_cons_succ, List.getElem?_cons_zero]; try exact rfl)
                case hf1_18 => kernel_rfl
                case hq1_18 => exact fun _ _ _ h => h
                case hy1_18 => (refine Or.inl ⟨rfl, ?_⟩; intro w hSw; (try dsimp only at hSw); go_simp; try with_reducible rfl)
                try simp only [Act.put, List.setIfInBounds_toArray, List.set_cons_zero, List.set_cons_succ]
                refine wpAnyH_take (i := 2) (oi := ?oi2_19) (v := ?v2_19) ?hi2_19 (by kernel_rfl) ?hf2_19 (by kernel_rfl) ?hq2_19 ?hy2_19 hHeld ?rest2_19
                case hi2_19 => (simp only [List.getElem?_toArray, List.getElem?_cons_succ, List.getElem?_cons_zero]; try exact rfl)
                case hf2_19 => kernel_rfl
                case hq2_19 => exact fun _ _ _ h => h
                case hy2_19 => (refine Or.inl ⟨rfl, ?_⟩; intro w hSw; (try dsimp only at hSw); go_simp; try with_reducible rfl)
                try simp only [Act.put, List.setIfInBounds_toArray, List.set_cons_zero, List.set_cons_succ]
                refine wpAnyH_take (i := 3) (oi := ?oi3_20) (v := ?v3_20) ?hi3_20 (by kernel_rfl) ?hf3_20 (by kernel_rfl) ?hq3_20 ?hy3_20 hHeld ?rest3_20
                case hi3_20 => (simp only [List.getElem?_toArray, List.getElem?_cons_succ, List.getElem?_cons_zero]; try exact rfl)
                case hf3_20 => kernel_rfl
                case hq3_20 => exact fun _ _ _ h => h
                case hy3_20 => (refine Or.inl ⟨rfl, ?_⟩; intro w hSw; (try dsimp only at hSw); go_simp; try with_reducible rfl)
                try simp only [Act.put, List.setIfInBounds_toArray, List.set_cons_zero, List.set_cons_succ]
                refine wpAnyH_take (i := 4) (oi := ?oi4_21) (v := ?v4_21) ?hi4_21 (by kernel_rfl) ?hf4_21 (by kernel_rfl) ?hq4_21 ?hy4_21 hHeld ?rest4_21
                case hi4_21 => (simp only [List.getElem?_toArray, List.getElem?_cons_succ, List.getElem?_cons_zero]; try exact rfl)
                case hf4_21 => kernel_rfl
                case hq4_21 => exact fun _ _ _ h => h
                case hy4_21 => (refine Or.inl ⟨rfl, ?_⟩; intro w hSw; (try dsimp only at hSw); go_simp; try with_reducible rfl)
                try simp only [Act.put, List.setIfInBounds_toArray, List.set_cons_zero, List.set_cons_succ]
                refine wpAnyH_take (i := 5) (oi := ?oi5_22) (v := ?v5_22) ?hi5_22 (by kernel_rfl) ?hf5_22 (by kernel_rfl) ?hq5_22 ?hy5_22 hHeld ?rest5_22
                case hi5_22 => (simp only [List.getElem?_toArray, List.getElem?_cons_succ, List.getElem?_cons_zero]; try exact rfl)
                case hf5_22 => kernel_rfl
                case hq5_22 => exact fun _ _ _ h => h
                case hy5_22 => (refine Or.inl ⟨rfl, ?_⟩; intro w hSw; (try dsimp only at hSw); go_simp; try with_reducible rfl)
                try simp only [Act.put, List.setIfInBounds_toArray, List.set_cons_zero, List.set_cons_succ]
                refine wpAnyH_take (i := 6) (oi := ?oi6_23) (v := ?v6_23) ?hi6_23 (by kernel_rfl) ?hf6_23 (by kernel_rfl) ?hq6_23 ?hy6_23 hHeld ?rest6_23
                case hi6_23 => (simp only [List.getElem?_toArray, List.getElem?_cons_succ, List.getElem?_cons_zero]; try exact rfl)
                case hf6_23 => kernel_rfl
                case hq6_23 => exact fun _ _ _ h => h
                case hy6_23 => (refine Or.inl ⟨rfl, ?_⟩; intro w hSw; (try dsimp only at hSw); go_simp; try with_reducible rfl)
                try simp only [Act.put, List.setIfInBounds_toArray, List.set_cons_zero, List.set_cons_succ]
                refine wpAnyH_take (i := 7) (oi := ?oi7_24) (v := ?v7_24) ?hi7_24 (by kernel_rfl) ?hf7_24 (by kernel_rfl) ?hq7_24 ?hy7_24 hHeld ?rest7_24
                case hi7_24 => (simp only [List.getElem?_toArray, List.getElem?_cons_succ, List.getElem?_cons_zero]; try exact rfl)
                case hf7_24 => kernel_rfl
                case hq7_24 => exact fun _ _ _ h => h
                case hy7_24 => (refine Or.inl ⟨rfl, ?_⟩; intro w hSw; (try dsimp only at hSw); go_simp; try with_reducible rfl)
                try simp only [Act.put, List.setIfInBounds_toArray, List.set_cons_zero, List.set_cons_succ]
                refine wpAnyH_take (i := 8) (oi := ?oi8_25) (v := ?v8_25) ?hi8_25 (by kernel_rfl) ?hf8_25 (by kernel_rfl) ?hq8_25 ?hy8_25 hHeld ?rest8_25
                case hi8_25 => (simp only [List.getElem?_toArray, List.getElem?_cons_succ, List.getElem?_cons_zero]; try exact rfl)
                case hf8_25 => kernel_rfl
                case hq8_25 => exact fun _ _ _ h => h
                case hy8_25 => (refine Or.inl ⟨rfl, ?_⟩; intro w hSw; (try dsimp only at hSw); go_simp; try with_reducible rfl)
                try simp only [Act.put, List.setIfInBounds_toArray, List.set_cons_zero, List.set_cons_succ]
                refine wpAnyH_take (i := 9) (oi := ?oi9_26) (v := ?v9_26) ?hi9_26 (by kernel_rfl) ?hf9_26 (by kernel_rfl) ?hq9_26 ?hy9_26 hHeld ?rest9_26
                case hi9_26 => (simp only [List.getElem?_toArray, List.getElem?_cons_succ, List.getElem?_cons_zero]; try exact rfl)
                case hf9_26 => kernel_rfl
                case hq9_26 => exact fun _ _ _ h => h
                case hy9_26 => (refine Or.inl ⟨rfl, ?_⟩; intro w hSw; (try dsimp only at hSw); go_simp; try with_reducible rfl)
                try simp only [Act.put, List.setIfInBounds_toArray, List.set_cons_zero, List.set_cons_succ]
                refine wpAnyH_take (i := 10) (oi := ?oi10_27) (v := ?v10_27) ?hi10_27 (by kernel_rfl) ?hf10_27 (by kernel_rfl) ?hq10_27 ?hy10_27 hHeld ?rest10_27
                case hi10_27 => (simp only [List.getElem?_toArray, List.getElem?_cons_succ, List.getElem?_cons_zero]; try exact rfl)
                case hf10_27 => kernel_rfl
                case hq10_27 => exact fun _ _ _ h => h
                case hy10_27 => (refine Or.inl ⟨rfl, ?_⟩; intro w hSw; (try dsimp only at hSw); go_simp; try with_reducible rfl)
                try simp only [Act.put, List.setIfInBounds_toArray, List.set_cons_zero, List.set_cons_succ]
                refine wpAnyH_take (i := 11) (oi := ?oi11_28) (v := ?v11_28) ?hi11_28 (by kernel_rfl) ?hf11_28 (by kernel_rfl) ?hq11_28 ?hy11_28 hHeld ?rest11_28
                case hi11_28 => (simp only [List.getElem?_toArray, List.getElem?_cons_succ, List.getElem?_cons_zero]; try exact rfl)
                case hf11_28 => kernel_rfl
                case hq11_28 => exact fun _ _ _ h => h
                case hy11_28 => (refine Or.inl ⟨rfl, ?_⟩; intro w hSw; (try dsimp only at hSw); go_simp; try with_reducible rfl)
                try simp only [Act.put, List.setIfInBounds_toArray, List.set_cons_zero, List.set_cons_succ]
                refine wpAnyH_take (i := 12) (oi := ?oi12_29) (v := ?v12_29) ?hi12_29 (by kernel_rfl) ?hf12_29 (by kernel_rfl) ?hq12_29 ?hy12_29 hHeld ?rest12_29
                case hi12_29 => (simp only [List.getElem?_toArray, List.getElem?_cons_succ, List.getElem?_cons_zero]; try exact rfl)
                case hf12_29 => kernel_rfl
                case hq12_29 => exact fun _ _ _ h => h
                case hy12_29 => (refine Or.inl ⟨rfl, ?_⟩; intro w hSw; (try dsimp only at hSw); go_simp; try with_reducible rfl)
                try simp only [Act.put, List.setIfInBounds_toArray, List.set_cons_zero, List.set_cons_succ]
                refine wpAnyH_take (i := 13) (oi := ?oi13_30) (v := ?v13_30) ?hi13_30 (by kernel_rfl) ?hf13_30 (by kernel_rfl) ?hq13_30 ?hy13_30 hHeld ?rest13_30
                case hi13_30 => (simp only [List.getElem?_toArray, List.getElem?_cons_succ, List.getElem?_cons_zero]; try exact rfl)
                case hf13_30 => kernel_rfl
                case hq13_30 => exact fun _ _ _ h => h
                case hy13_30 => (refine Or.inl ⟨rfl, ?_⟩; intro w hSw; (try dsimp only at hSw); go_simp; try with_reducible rfl)
                try simp only [Act.put, List.setIfInBounds_toArray, List.set_cons_zero, List.set_cons_succ]
                refine wpAnyH_take (i := 14) (oi := ?oi14_31) (v := ?v14_31) ?hi14_31 (by kernel_rfl) ?hf14_31 (by kernel_rfl) ?hq14_31 ?hy14_31 hHeld ?rest14_31
                case hi14_31 => (simp only [List.getElem?_toArray, List.getElem?_cons_succ, List.getElem?_cons_zero]; try exact rfl)
                case hf14_31 => kernel_rfl
                case hq14_31 => exact fun _ _ _ h => h
                case hy14_31 => (refine Or.inl ⟨rfl, ?_⟩; intro w hSw; (try dsimp only at hSw); go_simp; try with_reducible rfl)
                try simp only [Act.put, List.setIfInBounds_toArray, List.set_cons_zero, List.set_cons_succ]
                refine wpAnyH_take (i := 15) (oi := ?oi15_32) (v := ?v15_32) ?hi15_32 (by kernel_rfl) ?hf15_32 (by kernel_rfl) ?hq15_32 ?hy15_32 hHeld ?rest15_32
                case hi15_32 => (simp only [List.getElem?_toArray, List.getElem?_cons_succ, List.getElem?_cons_zero]; try exact rfl)
                case hf15_32 => kernel_rfl
                case hq15_32 => exact fun _ _ _ h => h
                case hy15_32 => (refine Or.inl ⟨rfl, ?_⟩; intro w hSw; (try dsimp only at hSw); go_simp; try with_reducible rfl)
                try simp only [Act.put, List.setIfInBounds_toArray, List.set_cons_zero, List.set_cons_succ]
                refine wpAnyH_ready (rs := [16]) (by kernel_rfl) (by simp) ?_
                refine AllReadyH.cons (by simp only [List.getElem?_toArray, List.getElem?_cons_succ, List.getElem?_cons_zero]; try exact rfl) (fun K hK => ?_) AllReadyH.nil
                obtain ⟨e1', e2', e3', ⟨u, e4'⟩⟩ := hHeld
                go_simp
                have hR8 : RS n0 (.slice (some ⟨g3, 0, none⟩) m3 c3) (rs4.set on (X0.1, { X0.2 with right := (m2 : Int), size := wrap64 (XL.2.size + XR.2.size) })) (w7.drew.setCell ⟨g3, on * 5 + 4, none⟩ (.int .i64 (wrap64 (XL.2.size + XR.2.size)))) := (HR7.out.set HL4.out 4 (by omega) (.int .i64 (wrap64 (XL.2.size + XR.2.size))) { X0.2 with right := (m2 : Int), size := wrap64 (XL.2.size + XR.2.size) } on HY0.out rfl rfl).below (Below.refl _ _).drew
                have hl5 : (rs4.set on (X0.1, { X0.2 with right := (m2 : Int), size := wrap64 (XL.2.size + XR.2.size) })).length = m3 := by rw [List.length_set]; exact HL4.out
                have hown := hR8.own
                rw [hl5] at hown
                have HR8 := Lib.hid hR8
                have HK8 := Lib.hid (HK7.out.trans ((KeepB.of_below (.slice (some ⟨g3, 0, none⟩) m3 c3) (Below.refl w7.heap.size w7).drew (by have := HK7.out.1.size; omega)).trans (KeepB.set (w := w7.drew) (n := m3) (cap := c3) (o := on * 5 + 4) (Value.int .i64 (wrap64 (XL.2.size + XR.2.size))) hg)))
                refine hK.out _ _ ⟨own_cell hown (x := XL) (by rw [List.getElem?_set_ne (by omega)]; exact HYL.out) (o := 4) rfl, own_cell hown (x := XR) (by rw [List.getElem?_set_ne (by omega)]; exact HYR.out) (o := 4) rfl, own_free hown _, _, own_cell hown (List.getElem?_set_self (by rw [HL4.out]; exact hnm)) (o := 4) rfl⟩ (fun hHeld => ?_)
                clear hK K hR8 hown hHeld e1' e2' e3' e4'
                try simp only [Act.put, List.setIfInBounds_toArray, List.set_cons_zero, List.set_cons_succ]
                refine wpAnyH_done (by kernel_rfl) ?_ _
                go_wp2_with fail
                go_ret2
                rw [F.out]
                refine ⟨_, _, by first | rfl | (dsimp only [endI]; congr 3; omega), ?_, HR8.out, HK8.out⟩
                rw [HMP.out, HP1.out, ← HM3.out, endM_eq (get_map HX0.out) (get_map (by rw [hnl]; rw [← hnl]; exact HXL.out)) (get_map HXR.out), ← HRS4.out, List.set_set, List.map_set]
          · have hXn := Lib.hid (show ¬ (s.drop i').take 2 = [60, 32] from fun e => hXe (hX.symm.trans e))
            have F := Lib.hid (readR_no (k := k) (out := rs.map (·.2)) FA.out F40.out HC.out hXn.out)
            have hbx : (X == [60, 32]) = false := beq_eq_false_iff_ne.2 hXe
            have hbn : (X != [60, 32]) = true := bne_iff_ne.2 hXe
            clear hX
            go_wp2_with fail
            go_ret2
            rw [F.out]
            exact ⟨_, rs, rfl, rfl, HRS.out.below HBW.out, KeepB.of_below _ HBW.out hn0⟩
      · rw [if_neg hei] at hC
        have HC := Lib.hid hC
        have hee : ((e : Int) == (i' : Int)) = false := beq_eq_false_iff_ne.2 (by omega)
        have hel : e ≤ sl := by have := hnl.2.1 hei; rw [HSL.out] at this; exact this
        clear hC hnl
        go_wp2_with (at_builtin; refine app1 _ _ rfl (.tmp 69) (.tmp 71) _ rfl eltI w.heap.size CA cl cc (cs.map (Value.int .i64)) rfl HROW.out rfl rfl (by simp [Value.oneCell']) (by omega) (by omega) ?_; intro A' cap' w2 hA)
        refine ⟨⟨cs ++ [n], j, e + 1, A', cap', by simp; rw [HCL.out]; omega, by rw [HC.out], by rw [HSL.out]; omega, by first | rfl | go_num, by simp [HCL.out], ?_, HBW.out.trans hA.below⟩, by simp [lenOf]; omega⟩
        have := hA.own
        simpa [HCL.out] using this
set_option maxHeartbeats 8000000 in
set_option maxRecDepth 100000 in
theorem read_any (s : List UInt8) (hlen : s.length ≤ 1000000) (n0 : Nat) : ∀ (k a : Nat) (av st : Int) (w : World) (v : Value) (rs : List (Value × Nd)), av = (a : Int) → st = (k : Int) - 1 → k ≤ 7 → a ≤ s.length + 20 → n0 ≤ w.heap.size → RS n0 v rs w → rs.length + 2 ^ k ≤ 1000 →
    Calls Tryd.prog 48 #[.string ⟨s.toArray⟩, .int .i64 av, .int .i64 st, v] w fun e w' => RdPost n0 (readR s k a (rs.map (·.2))) w v e w' := by
  intro k
  induction k with
  | zero =>
    rintro a av st w v rs rfl rfl hk ha hn0 hRS hl
    obtain ⟨OA, oc, rfl⟩ := slice_of_own hRS.own
    have HRS := Lib.hid hRS
    obtain ⟨on, hon⟩ : ∃ on, rs.length = on := ⟨_, rfl⟩
    rw [hon] at HRS ⊢
    clear hRS hl
    rw [show (((0 : Nat) : Int) - 1) = -1 from rfl]
    go_enter Tryd.func48, Tryd.ntmps48
    go_wp2_with fail
    go_ret2
    exact ⟨_, rs, rfl, rfl, HRS.out, KeepB.of_below _ (Below.refl _ _) hn0⟩
  | succ k IH =>
    rintro a av st w v rs rfl rfl hk ha hn0 hRS hl
    rw [show ((k + 1 : Nat) : Int) - 1 = (k : Int) by omega]
    by_cases hfk : ¬ s.length ≤ a ∧ s[a]? = some 40
    · by_cases h9 : (coefR s 9 (a + 1) []).1.length = 9
      · exact read_f9 s hlen n0 k IH a w v rs hk ha hn0 hRS hl hfk.1 hfk.2 h9
      · exact read_fb s hlen n0 k IH a w v rs hk ha hn0 hRS hl hfk.1 hfk.2 h9
    have hp1 := Nat.one_le_two_pow (n := k)
    have hp2 : 2 ^ (k + 1) = 2 ^ k + 2 ^ k := by rw [Nat.pow_succ]; omega
    rw [hp2] at hl
    obtain ⟨OA, oc, rfl⟩ := slice_of_own hRS.own
    obtain ⟨on, hon⟩ : ∃ on, rs.length = on := ⟨_, rfl⟩
    have HON := Lib.hid hon
    have HMP := Lib.hid (show (rs.map (·.2)).length = on by simpa using hon)
    rw [hon] at hRS hl ⊢
    have HRS := Lib.hid hRS
    have hro := hRS.own
    rw [hon] at hro
    have HO := Lib.hid hro
    obtain ⟨sl, hsl⟩ : ∃ sl, s.length = sl := ⟨_, rfl⟩
    have HSL := Lib.hid hsl
    have hss : s.toArray.size = sl := by simpa using hsl
    have HIX := Lib.hid (fun (k : Nat) (c : UInt8) (hc : s[k]? = some c) (hh : k < (⟨s.toArray⟩ : ByteArray).size) => show (⟨s.toArray⟩ : ByteArray)[k]'hh = c from by
      obtain ⟨h1, h2⟩ := List.getElem?_eq_some_iff.1 hc
      exact h2)
    have HGL := Lib.hid (fun (k : Nat) (hk : k < sl) => (⟨_, List.getElem?_eq_getElem (by rw [hsl]; exact hk)⟩ : ∃ c, s[k]? = some c))
    have hlen' := hlen
    have HLEN := Lib.hid hlen
    rw [hsl] at hlen' ha
    have HIH := Lib.hid (fun a' av' st' W v' rs' x1 x2 x3 x4 x5 x6 => IH a' av' st' W v' rs' x1 x2 (by omega) x3 x4 x5 x6)
    clear IH hRS hro hon hsl hlen
    have hk0 : ¬ (k : Int) < 0 := by omega
    by_cases hal : sl ≤ a
    · clear hfk
      have F := Lib.hid (readR_out (k := k) (out := rs.map (·.2)) (by rw [HSL.out]; exact hal))
      have hd : decide ((a : Int) ≥ (sl : Int)) = true := decide_eq_true (by omega)
      go_enter Tryd.func48, Tryd.ntmps48
      go_wp2_with fail
      go_ret2
      rw [F.out]
      exact ⟨_, rs, rfl, rfl, HRS.out, KeepB.of_below _ (Below.refl _ _) hn0⟩
    · obtain ⟨c0, hc0⟩ := HGL.out a (by omega)
      have hix0 := HIX.out a c0 hc0
      have hal2 : a < sl := by omega
      have hd : decide ((a : Int) ≥ (sl : Int)) = false := decide_eq_false (by omega)
      by_cases h40 : c0 = 40
      · subst h40
        exact absurd ⟨by rw [HSL.out]; exact hal, hc0⟩ hfk
      · have hcn40 : c0.toNat ≠ 40 := fun e => h40 (UInt8.toNat_inj.1 (show c0.toNat = (40 : UInt8).toNat from e))
        have hce : ((c0.toNat : Int) != 40) = true := bne_iff_ne.2 (by omega)
        have hc40 : ¬ s[a]? = some 40 := by rw [hc0]; intro e; exact h40 (Option.some.inj e)
        have HC40 := Lib.hid hc40
        have FA := Lib.hid (show ¬ s.length ≤ a by rw [HSL.out]; exact hal)
        obtain ⟨nn, hnn⟩ : ∃ nn, numR s a = nn := ⟨_, rfl⟩
        obtain ⟨n, e⟩ := nn
        have HNN := Lib.hid hnn
        clear hnn hc0 h40 hc40 hcn40 hfk
        go_enter Tryd.func48, Tryd.ntmps48
        go_wp2_with fail
        refine (numR_at _ HLEN.out (by omega) rfl HNN.out).mono ?_
        rintro r w1 ⟨rfl, rfl⟩
        by_cases hea : e = a
        · have F := Lib.hid (readR_l0 (k := k) (out := rs.map (·.2)) FA.out HC40.out HNN.out hea)
          have hee : ((e : Int) == (a : Int)) = true := beq_iff_eq.2 (by omega)
          go_wp2_with fail
          go_ret2
          rw [F.out]
          exact ⟨_, rs, rfl, rfl, HRS.out, KeepB.of_below _ (Below.refl _ _) hn0⟩
        · have F := Lib.hid (readR_l1 (k := k) (out := rs.map (·.2)) FA.out HC40.out HNN.out hea)
          have hee : ((e : Int) == (a : Int)) = false := beq_eq_false_iff_ne.2 (by omega)
          go_wp2_with (at_builtin; refine app1 _ _ rfl (.tmp 47) (.tmp 50) _ rfl eltN n0 OA on oc (rs.flatMap ndC) rfl HO.out rfl rfl (by simp [Value.oneCell']) (by omega) hn0 ?_; intro A' cap' w2 hA)
          go_ret2
          rw [F.out]
          exact ⟨.slice A' (on + 1) cap', rs ++ [(.slice none 0 0, ⟨[], 0, 0, 0, n⟩)], rfl, by simp, HRS.out.app (cv := .slice none 0 0) (nd := ⟨[], 0, 0, 0, n⟩) HON.out hA (World.ownsRow_nil _ _ _ _), KeepB.of_app hA⟩
end Go.Proofs.YtmmgfelifmdnbaaDoor.RfdW

/- The reference's node and Text. -/
namespace Go.Proofs.YtmmgfelifmdnbaaDoor.RftW
set_option linter.unusedVariables false
open Go.RowKit Go.Shelf Base SeqM ShpM ShpV ShpW ShpD ShpT ShpI ShpJ ShpR ShpU ItrD ItrF ItrG TxtM GlbS WrtM TexW

theorem sz (l : List UInt8) : (⟨l.toArray⟩ : ByteArray).size = l.length := by show l.toArray.size = _; simp
theorem cat_eq (a b r : List UInt8) (h : a ++ b = r) : (⟨a.toArray⟩ : ByteArray) ++ ⟨b.toArray⟩ = ⟨r.toArray⟩ := by
  subst h
  apply ByteArray.ext
  simp
/-- what the region of node's end loads -/
def NtS (w : World) (dim : Int) (ad : Addr) (n cap i lc : Nat) (a : Int) (w' : World) : Prop := w'.cell? ⟨w.heap.size, 0, none⟩ = some (.int .i64 dim) ∧ w'.cell? ⟨w.heap.size, 1, none⟩ = some (.slice (some ad) n cap) ∧ w'.cell? ⟨w.heap.size + 1, 2, none⟩ = some (.int .i64 ((i : Int) + 1)) ∧ w'.cell? ⟨w.heap.size + 1, 3, none⟩ = some (.int .i64 ((i : Int) + 1 + (lc : Int))) ∧ w'.cell? ⟨w.heap.size + 1, 1, none⟩ = some (.int .i64 a)
theorem nts_up {w : World} {dim : Int} {ad : Addr} {n cap i lc : Nat} {a : Int} {W W' : World} (h : NtS w dim ad n cap i lc a W) (hb : Below W.heap.size W W') (hz : w.heap.size + 2 ≤ W.heap.size) : NtS w dim ad n cap i lc a W' :=
  ⟨(hb.cell (by show w.heap.size < _; omega)).trans h.1, (hb.cell (by show w.heap.size < _; omega)).trans h.2.1, (hb.cell (by show w.heap.size + 1 < _; omega)).trans h.2.2.1, (hb.cell (by show w.heap.size + 1 < _; omega)).trans h.2.2.2.1, (hb.cell (by show w.heap.size + 1 < _; omega)).trans h.2.2.2.2⟩
theorem nts_new (w : World) (dim : Int) (ad : Addr) (n cap i lc : Nat) (a : Int) (cv sv : Value) : NtS w dim ad n cap i lc a ((w.alloc (.cells #[.int .i64 dim, .slice (some ad) n cap] 24)).alloc (.cells #[cv, .int .i64 a, .int .i64 ((i : Int) + 1), .int .i64 ((i : Int) + 1 + (lc : Int)), sv] 39)) := by
  have k0 : ((w.alloc (.cells #[.int .i64 dim, .slice (some ad) n cap] 24)).alloc (.cells #[cv, .int .i64 a, .int .i64 ((i : Int) + 1), .int .i64 ((i : Int) + 1 + (lc : Int)), sv] 39)).heap[w.heap.size]? = some (.cells #[.int .i64 dim, .slice (some ad) n cap] 24 (0, 0)) := (Below.heap_alloc _ _ _ (by simp)).trans (heap_alloc_new w _)
  have k1 : ((w.alloc (.cells #[.int .i64 dim, .slice (some ad) n cap] 24)).alloc (.cells #[cv, .int .i64 a, .int .i64 ((i : Int) + 1), .int .i64 ((i : Int) + 1 + (lc : Int)), sv] 39)).heap[w.heap.size + 1]? = some (.cells #[cv, .int .i64 a, .int .i64 ((i : Int) + 1), .int .i64 ((i : Int) + 1 + (lc : Int)), sv] 39 (0, 0)) := by
    have := heap_alloc_new (w.alloc (.cells #[.int .i64 dim, .slice (some ad) n cap] 24)) (.cells #[cv, .int .i64 a, .int .i64 ((i : Int) + 1), .int .i64 ((i : Int) + 1 + (lc : Int)), sv] 39)
    simpa using this
  exact ⟨cell_heap k0 rfl, cell_heap k0 rfl, cell_heap k1 rfl, cell_heap k1 rfl, cell_heap k1 rfl⟩
def NtRel (c : List Int) (s i : Value) : Prop := ∃ k : Nat, k ≤ c.length ∧ i = .int .i64 k ∧ s = .string ⟨(40 :: coefT (c.take k)).toArray⟩
theorem coefT_take_len {c : List Int} (h : ∀ x ∈ c, -4 ≤ x ∧ x ≤ 4) (k : Nat) : (coefT (c.take k)).length ≤ 22 * c.length := by
  have h1 := coef_len (c.take k) (fun x hx => h x (List.mem_of_mem_take hx))
  have h2 : (c.take k).length ≤ c.length := by rw [List.length_take]; omega
  omega
set_option maxHeartbeats 4000000 in
set_option maxRecDepth 100000 in
theorem node_any {dim d2 : Int} {nv : Value} {ls : List Nd} {lo : Nat} (hlen : ls.length ≤ 127) : ∀ (b : B) (i : Nat) (iv : Int) (w : World), iv = (i : Int) → At ls i b → b.ok d2 → b.size ≤ 64 → b.count ≤ 127 → Nds w lo w.heap.size nv ls →
    Calls Tryd.prog 50 #[.agg #[.int .i64 dim, nv], .int .i64 iv] w fun e w' => e = .returned (.string ⟨(txt b).toArray⟩) ∧ Below w.heap.size w w' := by
  intro b
  induction b with
  | leaf sz =>
    rintro i iv w rfl hat hok hs hc h
    have h1 : 1 ≤ sz := hok
    have h2 : sz ≤ 64 := hs
    have h0 := at_leaf.1 hat
    obtain ⟨A, cap, rfl, hc1, hc2, _⟩ := h.form
    obtain ⟨n, hn⟩ : ∃ n, ls.length = n := ⟨_, rfl⟩
    have hil := (List.getElem?_eq_some_iff.1 h0).1
    rw [hn] at h hc1 hlen hil ⊢
    obtain ⟨ad, cv, e1, hbk, d0, d1, d2, d3, d4, hcv⟩ := h.get h0
    subst e1
    obtain ⟨AC, cc, rfl, _, _, _, _⟩ := id hcv
    have l1 : ad.block < w.heap.size := hbk
    have l2 : (ad.add (i * 5)).block < w.heap.size := by rw [add_block]; exact l1
    dsimp only at d0 d1 d2 d3 d4 ⊢
    rw [show ([] : List Int).length = 0 from rfl] at d0
    clear hcv h h0 hat hok hs
    go_enter Tryd.func50, Tryd.ntmps50
    go_wp2_with fail
    refine (DigW.Digits_any sz _ (by omega) (by omega)).mono ?_
    rintro e w1 ⟨rfl, rfl⟩
    go_wp2_with fail
    go_ret
    exact ⟨rfl, below_a2 _ _ _⟩
  | fork c a l r IHl IHr =>
    rintro i iv w rfl hat hok hs hc h
    obtain ⟨h0, hL, hR⟩ := at_fork.1 hat
    obtain ⟨⟨⟨k1, k2, k3, k4, _⟩, ka, kb⟩, okl, okr⟩ := hok
    have pl := size_pos okl
    have pr := size_pos okr
    simp only [B.size] at hs
    simp only [B.count] at hc
    have tl := txt_len l okl (by omega)
    have tr := txt_len r okr (by omega)
    have hcl := coef_len c k4
    obtain ⟨A, cap, rfl, hc1, hc2, _⟩ := h.form
    obtain ⟨n, hn⟩ : ∃ n, ls.length = n := ⟨_, rfl⟩
    have hil := (List.getElem?_eq_some_iff.1 h0).1
    rw [hn] at h hc1 hlen hil IHl IHr ⊢
    have IHL := Lib.hid (fun (W : World) (hb : Below w.heap.size w W) => IHl (i + 1) ((i : Int) + 1) W (by omega) hL okl (by omega) (by omega) (h.up hb))
    have IHR := Lib.hid (fun (W : World) (hb : Below w.heap.size w W) => IHr (i + 1 + l.count) ((i : Int) + 1 + (l.count : Int)) W (by omega) hR okr (by omega) (by omega) (h.up hb))
    clear IHl IHr
    obtain ⟨ad, cv, e1, hbk, d0, d1, d2, d3, d4, hcv⟩ := h.get h0
    subst e1
    have HCV := Lib.hid hcv
    obtain ⟨AC, cc, rfl, cc1, cc2, hrow, _⟩ := id hcv
    obtain ⟨cn, hcn⟩ : ∃ cn, c.length = cn := ⟨_, rfl⟩
    have hdl : (⟨c, a, ((i + 1 : Nat) : Int), ((i + 1 + l.count : Nat) : Int), l.size + r.size⟩ : Nd).coef.length = cn := hcn
    have l1 : ad.block < w.heap.size := hbk
    have l2 : (ad.add (i * 5)).block < w.heap.size := by rw [add_block]; exact l1
    dsimp only at d0 d1 d2 d3 d4 hrow cc1
    have HROW := Lib.hid (fun (k : Nat) (hk : k < c.length) => rdI hrow (i := k) hk)
    have HK4 := Lib.hid k4
    have HCN := Lib.hid hcn
    rw [hcn] at d0 cc1
    have cc3 : cn ≤ 9223372036854775807 := by unfold maxLen at cc2; omega
    have hcn8 : cn ≤ 8 := by omega
    have hlb : (((i : Int) + 1) == 0) = false := by rw [beq_eq_false_iff_ne]; omega
    obtain ⟨lc, hlc⟩ : ∃ lc, l.count = lc := ⟨_, rfl⟩
    rw [hlc] at d3 IHR
    have H0 := Lib.hid (show NtRel c (.string ⟨#[40]⟩) (.int .i64 0) from ⟨0, Nat.zero_le _, rfl, by simp [coefT]⟩)
    rw [hcn] at hcl
    -- the strings behind the loop
    obtain ⟨LA, hLA⟩ : ∃ x, Lib.itoa a = x := ⟨_, rfl⟩
    have lla := itoa_len a (by omega) (by omega)
    obtain ⟨TL, hTL⟩ : ∃ x, txt l = x := ⟨_, rfl⟩
    obtain ⟨TR, hTR⟩ : ∃ x, txt r = x := ⟨_, rfl⟩
    obtain ⟨L0, hL0⟩ : ∃ x, 40 :: coefT c = x := ⟨_, rfl⟩
    have z0 : L0.length ≤ 200 := by rw [← hL0, List.length_cons]; omega
    obtain ⟨L1, hL1⟩ : ∃ x, L0 ++ [60, 32] = x := ⟨_, rfl⟩
    have z1 : L1.length = L0.length + 2 := by rw [← hL1]; simp
    obtain ⟨L2, hL2⟩ : ∃ x, L1 ++ LA = x := ⟨_, rfl⟩
    have z2 : L2.length = L1.length + LA.length := by rw [← hL2]; simp
    obtain ⟨L3, hL3⟩ : ∃ x, L2 ++ [32] = x := ⟨_, rfl⟩
    have z3 : L3.length = L2.length + 1 := by rw [← hL3]; simp
    obtain ⟨L4, hL4⟩ : ∃ x, L3 ++ TL = x := ⟨_, rfl⟩
    have z4 : L4.length = L3.length + TL.length := by rw [← hL4]; simp
    obtain ⟨L5, hL5⟩ : ∃ x, L4 ++ [32] = x := ⟨_, rfl⟩
    have z5 : L5.length = L4.length + 1 := by rw [← hL5]; simp
    obtain ⟨L6, hL6⟩ : ∃ x, L5 ++ TR = x := ⟨_, rfl⟩
    have z6 : L6.length = L5.length + TR.length := by rw [← hL6]; simp
    obtain ⟨L7, hL7⟩ : ∃ x, L6 ++ [41] = x := ⟨_, rfl⟩
    have F := Lib.hid (show txt (.fork c a l r) = L7 by rw [← hL7, ← hL6, ← hL5, ← hL4, ← hL3, ← hL2, ← hL1, ← hL0, ← hLA, ← hTL, ← hTR]; simp [txt])
    rw [hLA] at lla
    rw [hTL] at tl IHL
    rw [hTR] at tr IHR
    have HL0 := Lib.hid hL0
    have e1 : (⟨L0.toArray⟩ : ByteArray) ++ (⟨#[60, 32]⟩ : ByteArray) = ⟨L1.toArray⟩ := cat_eq L0 [60, 32] L1 hL1
    have e2 : (⟨L1.toArray⟩ : ByteArray) ++ (⟨LA.toArray⟩ : ByteArray) = ⟨L2.toArray⟩ := cat_eq L1 LA L2 hL2
    have e3 : (⟨L2.toArray⟩ : ByteArray) ++ (⟨#[32]⟩ : ByteArray) = ⟨L3.toArray⟩ := cat_eq L2 [32] L3 hL3
    have e4 : (⟨L3.toArray⟩ : ByteArray) ++ (⟨TL.toArray⟩ : ByteArray) = ⟨L4.toArray⟩ := cat_eq L3 TL L4 hL4
    have e5 : (⟨L4.toArray⟩ : ByteArray) ++ (⟨#[32]⟩ : ByteArray) = ⟨L5.toArray⟩ := cat_eq L4 [32] L5 hL5
    have e6 : (⟨L5.toArray⟩ : ByteArray) ++ (⟨TR.toArray⟩ : ByteArray) = ⟨L6.toArray⟩ := cat_eq L5 TR L6 hL6
    have e7 : (⟨L6.toArray⟩ : ByteArray) ++ (⟨#[41]⟩ : ByteArray) = ⟨L7.toArray⟩ := cat_eq L6 [41] L7 hL7
    have n1 : ¬ 9223372036854775807 < L0.length + 2 := by omega
    have n2 : ¬ 9223372036854775807 < L1.length + LA.length := by omega
    have n3 : ¬ 9223372036854775807 < L2.length + 1 := by omega
    have n4 : ¬ 9223372036854775807 < L3.length + TL.length := by omega
    have n5 : ¬ 9223372036854775807 < L4.length + 1 := by omega
    have n6 : ¬ 9223372036854775807 < L5.length + TR.length := by omega
    have n7 : ¬ 9223372036854775807 < L6.length + 1 := by omega
    have s1 : ¬ 9223372036854775807 < (⟨L0.toArray⟩ : ByteArray).size + 2 := by rw [sz]; omega
    have s2 : ¬ 9223372036854775807 < (⟨L1.toArray⟩ : ByteArray).size + (⟨LA.toArray⟩ : ByteArray).size := by rw [sz, sz]; omega
    have s3 : ¬ 9223372036854775807 < (⟨L2.toArray⟩ : ByteArray).size + 1 := by rw [sz]; omega
    have s4 : ¬ 9223372036854775807 < (⟨L3.toArray⟩ : ByteArray).size + (⟨TL.toArray⟩ : ByteArray).size := by rw [sz, sz]; omega
    have s5 : ¬ 9223372036854775807 < (⟨L4.toArray⟩ : ByteArray).size + 1 := by rw [sz]; omega
    have s6 : ¬ 9223372036854775807 < (⟨L5.toArray⟩ : ByteArray).size + (⟨TR.toArray⟩ : ByteArray).size := by rw [sz, sz]; omega
    have s7 : ¬ 9223372036854775807 < (⟨L6.toArray⟩ : ByteArray).size + 1 := by rw [sz]; omega
    have SS := Lib.hid (And.intro e1 (And.intro e2 (And.intro e3 (And.intro e4 (And.intro e5 (And.intro e6 e7))))))
    have SN := Lib.hid (And.intro n1 (And.intro n2 (And.intro n3 (And.intro n4 (And.intro n5 (And.intro n6 n7))))))
    have SZ := Lib.hid (And.intro s1 (And.intro s2 (And.intro s3 (And.intro s4 (And.intro s5 (And.intro s6 s7))))))
    have ID := Lib.hid (fun W => by have := DigW.Digits_any a W (by omega) (by omega); rw [hLA] at this; exact this : ∀ W : World, Calls Tryd.prog 49 #[.int .i64 a] W fun e w' => e = .returned (.string ⟨LA.toArray⟩) ∧ W = w')
    clear hcv h h0 hat hcn hdl hrow hL hR okl okr k1 k2 k3 k4 hLA hTL hTR hL0 hL1 hL2 hL3 hL4 hL5 hL6 hL7 z0 z1 z2 z3 z4 z5 z6 e1 e2 e3 e4 e5 e6 e7 n1 n2 n3 n4 n5 n6 n7 s1 s2 s3 s4 s5 s6 s7 lla tl tr hs hc pl pr ka kb hlc cc2
    have HH := Lib.hid hcl
    clear hcl
    go_enter Tryd.func50, Tryd.ntmps50
    go_wp2_with fail
    go_loop [6, 7] (fun s k => NtRel c s k) (fun _ k => cn - (intOf k).toNat)
    case atStart => exact H0.out
    case round =>
      obtain ⟨k, hk, rfl, rfl⟩ := hrel
      rw [HCN.out] at hk
      have lk := coefT_take_len HK4.out k
      rw [HCN.out] at lk
      by_cases hkn : k = cn
      · have hT : c.take k = c := by rw [hkn, ← HCN.out]; exact List.take_length
        rw [hT, HL0.out]
        subst hkn
        clear hT lk
        obtain ⟨e1, e2, e3, e4, e5, e6, e7⟩ := SS.out
        obtain ⟨n1, n2, n3, n4, n5, n6, n7⟩ := SN.out
        obtain ⟨s1, s2, s3, s4, s5, s6, s7⟩ := SZ.out
        go_wp2_with fail
        obtain ⟨W0, hW0⟩ : ∃ W, (w.alloc (.cells #[.int .i64 dim, .slice (some ad) n cap] 24)).alloc (.cells #[.slice AC k cc, .int .i64 a, .int .i64 ((i : Int) + 1), .int .i64 ((i : Int) + 1 + (lc : Int)), .int .i64 (l.size + r.size)] 39) = W := ⟨_, rfl⟩
        have hB0 : Below w.heap.size w W0 := by rw [← hW0]; exact below_a2 _ _ _
        have hz0 : W0.heap.size = w.heap.size + 2 := by rw [← hW0]; simp
        have hS0 : NtS w dim ad n cap i lc a W0 := by rw [← hW0]; exact nts_new ..
        rw [hW0]
        have HB0 := Lib.hid hB0
        have HS0 := Lib.hid hS0
        have HZ0 := Lib.hid hz0
        clear hB0 hS0 hz0 hW0
        refine wp_region_held_drew (S := fun w' => w'.cell? ⟨w.heap.size, 0, none⟩ = some (.int .i64 dim) ∧ w'.cell? ⟨w.heap.size, 1, none⟩ = some (.slice (some ad) n cap) ∧ w'.cell? ⟨w.heap.size + 1, 2, none⟩ = some (.int .i64 ((i : Int) + 1)) ∧ w'.cell? ⟨w.heap.size + 1, 3, none⟩ = some (.int .i64 ((i : Int) + 1 + (lc : Int))) ∧ w'.cell? ⟨w.heap.size + 1, 1, none⟩ = some (.int .i64 a)) (by kernel_rfl) HS0.out (fun hHeld => ?_)
        have hB1 := bt (Below.refl W0.heap.size W0).drew HB0.out
        obtain ⟨w2, hw2⟩ : ∃ W, W0.drew = W := ⟨_, rfl⟩
        have hS2 : NtS w dim ad n cap i lc a W0.drew := HS0.out
        have hz2 : W0.drew.heap.size = w.heap.size + 2 := HZ0.out
        rw [hw2] at hHeld hB1 hS2 hz2 ⊢
        have HB2 := Lib.hid hB1
        have HS2 := Lib.hid hS2
        have HZ2 := Lib.hid hz2
        clear hB1 hS2 hz2 hw2
        refine wpAnyH_take (i := 0) (oi := ?oi0_1) (v := ?v0_1) ?hi0_1 (by kernel_rfl) ?hf0_1 (by kernel_rfl) ?hq0_1 ?hy0_1 hHeld ?rest0_1
        case hi0_1 => (simp only [List.getElem?_toArray, List.getElem?_cons_zero]; try exact rfl)
        case hf0_1 => kernel_rfl
        case hq0_1 => exact fun _ _ _ h => h
        case hy0_1 => (refine Or.inl ⟨rfl, ?_⟩; intro w hSw; (try dsimp only at hSw); go_simp; try with_reducible rfl)
        try simp only [Act.put, List.setIfInBounds_toArray, List.set_cons_zero, List.set_cons_succ]
        refine wpAnyH_take (i := 1) (oi := ?oi1_2) (v := ?v1_2) ?hi1_2 (by kernel_rfl) ?hf1_2 (by kernel_rfl) ?hq1_2 ?hy1_2 hHeld ?rest1_2
        case hi1_2 => (simp only [List.getElem?_toArray, List.getElem?_cons_succ, List.getElem?_cons_zero]; try exact rfl)
        case hf1_2 => kernel_rfl
        case hq1_2 => exact fun _ _ _ h => h
        case hy1_2 => (refine Or.inl ⟨rfl, ?_⟩; intro w hSw; (try dsimp only at hSw); go_simp; try with_reducible rfl)
        try simp only [Act.put, List.setIfInBounds_toArray, List.set_cons_zero, List.set_cons_succ]
        refine wpAnyH_take (i := 2) (oi := ?oi2_3) (v := ?v2_3) ?hi2_3 (by kernel_rfl) ?hf2_3 (by kernel_rfl) ?hq2_3 ?hy2_3 hHeld ?rest2_3
        case hi2_3 => (simp only [List.getElem?_toArray, List.getElem?_cons_succ, List.getElem?_cons_zero]; try exact rfl)
        case hf2_3 => kernel_rfl
        case hq2_3 => exact fun _ _ _ h => h
        case hy2_3 => (refine Or.inl ⟨rfl, ?_⟩; intro w hSw; (try dsimp only at hSw); go_simp; try with_reducible rfl)
        try simp only [Act.put, List.setIfInBounds_toArray, List.set_cons_zero, List.set_cons_succ]
        refine wpAnyH_take (i := 3) (oi := ?oi3_4) (v := ?v3_4) ?hi3_4 (by kernel_rfl) ?hf3_4 (by kernel_rfl) ?hq3_4 ?hy3_4 hHeld ?rest3_4
        case hi3_4 => (simp only [List.getElem?_toArray, List.getElem?_cons_succ, List.getElem?_cons_zero]; try exact rfl)
        case hf3_4 => kernel_rfl
        case hq3_4 => exact fun _ _ _ h => h
        case hy3_4 => (refine Or.inl ⟨rfl, ?_⟩; intro w hSw; (try dsimp only at hSw); go_simp; try with_reducible rfl)
        try simp only [Act.put, List.setIfInBounds_toArray, List.set_cons_zero, List.set_cons_succ]
        refine wpAnyH_take (i := 4) (oi := ?oi4_5) (v := ?v4_5) ?hi4_5 (by kernel_rfl) ?hf4_5 (by kernel_rfl) ?hq4_5 ?hy4_5 hHeld ?rest4_5
        case hi4_5 => (simp only [List.getElem?_toArray, List.getElem?_cons_succ, List.getElem?_cons_zero]; try exact rfl)
        case hf4_5 => kernel_rfl
        case hq4_5 => exact fun _ _ _ h => h
        case hy4_5 => (refine Or.inl ⟨rfl, ?_⟩; intro w hSw; (try dsimp only at hSw); go_simp; try with_reducible rfl)
        try simp only [Act.put, List.setIfInBounds_toArray, List.set_cons_zero, List.set_cons_succ]
        refine wpAnyH_take (i := 8) (oi := ?oi8_6) (v := ?v8_6) ?hi8_6 (by kernel_rfl) ?hf8_6 (by kernel_rfl) ?hq8_6 ?hy8_6 hHeld ?rest8_6
        case hi8_6 => (simp only [List.getElem?_toArray, List.getElem?_cons_succ, List.getElem?_cons_zero]; try exact rfl)
        case hf8_6 => kernel_rfl
        case hq8_6 => exact fun _ _ _ h => h
        case hy8_6 => (refine Or.inl ⟨rfl, ?_⟩; intro w hSw; (try dsimp only at hSw); go_simp; try with_reducible rfl)
        try simp only [Act.put, List.setIfInBounds_toArray, List.set_cons_zero, List.set_cons_succ]
        refine wpAnyH_take (i := 9) (oi := ?oi9_7) (v := ?v9_7) ?hi9_7 (by kernel_rfl) ?hf9_7 (by kernel_rfl) ?hq9_7 ?hy9_7 hHeld ?rest9_7
        case hi9_7 => (simp only [List.getElem?_toArray, List.getElem?_cons_succ, List.getElem?_cons_zero]; try exact rfl)
        case hf9_7 => kernel_rfl
        case hq9_7 => exact fun _ _ _ h => h
        case hy9_7 => (refine Or.inl ⟨rfl, ?_⟩; intro w hSw; (try dsimp only at hSw); go_simp; try with_reducible rfl)
        try simp only [Act.put, List.setIfInBounds_toArray, List.set_cons_zero, List.set_cons_succ]
        refine wpAnyH_take (i := 10) (oi := ?oi10_8) (v := ?v10_8) ?hi10_8 (by kernel_rfl) ?hf10_8 (by kernel_rfl) ?hq10_8 ?hy10_8 hHeld ?rest10_8
        case hi10_8 => (simp only [List.getElem?_toArray, List.getElem?_cons_succ, List.getElem?_cons_zero]; try exact rfl)
        case hf10_8 => kernel_rfl
        case hq10_8 => exact fun _ _ _ h => h
        case hy10_8 => (refine Or.inl ⟨rfl, ?_⟩; intro w hSw; (try dsimp only at hSw); go_simp; try with_reducible rfl)
        try simp only [Act.put, List.setIfInBounds_toArray, List.set_cons_zero, List.set_cons_succ]
        refine wpAnyH_take (i := 14) (oi := ?oi14_9) (v := ?v14_9) ?hi14_9 (by kernel_rfl) ?hf14_9 (by kernel_rfl) ?hq14_9 ?hy14_9 hHeld ?rest14_9
        case hi14_9 => (simp only [List.getElem?_toArray, List.getElem?_cons_succ, List.getElem?_cons_zero]; try exact rfl)
        case hf14_9 => kernel_rfl
        case hq14_9 => exact fun _ _ _ h => h
        case hy14_9 => (refine Or.inl ⟨rfl, ?_⟩; intro w hSw; (try dsimp only at hSw); go_simp; try with_reducible rfl)
        try simp only [Act.put, List.setIfInBounds_toArray, List.set_cons_zero, List.set_cons_succ]
        refine wpAnyH_take (i := 15) (oi := ?oi15_10) (v := ?v15_10) ?hi15_10 (by kernel_rfl) ?hf15_10 (by kernel_rfl) ?hq15_10 ?hy15_10 hHeld ?rest15_10
        case hi15_10 => (simp only [List.getElem?_toArray, List.getElem?_cons_succ, List.getElem?_cons_zero]; try exact rfl)
        case hf15_10 => kernel_rfl
        case hq15_10 => exact fun _ _ _ h => h
        case hy15_10 => (refine Or.inl ⟨rfl, ?_⟩; intro w hSw; (try dsimp only at hSw); go_simp; try with_reducible rfl)
        try simp only [Act.put, List.setIfInBounds_toArray, List.set_cons_zero, List.set_cons_succ]
        refine wpAnyH_take (i := 16) (oi := ?oi16_11) (v := ?v16_11) ?hi16_11 (by kernel_rfl) ?hf16_11 (by kernel_rfl) ?hq16_11 ?hy16_11 hHeld ?rest16_11
        case hi16_11 => (simp only [List.getElem?_toArray, List.getElem?_cons_succ, List.getElem?_cons_zero]; try exact rfl)
        case hf16_11 => kernel_rfl
        case hq16_11 => exact fun _ _ _ h => h
        case hy16_11 => (refine Or.inl ⟨rfl, ?_⟩; intro w hSw; (try dsimp only at hSw); go_simp; try with_reducible rfl)
        try simp only [Act.put, List.setIfInBounds_toArray, List.set_cons_zero, List.set_cons_succ]
        refine wpAnyH_ready (rs := [5]) (by kernel_rfl) (by simp) ?_
        refine AllReadyH.cons (by simp only [List.getElem?_toArray, List.getElem?_cons_succ, List.getElem?_cons_zero]; try exact rfl) (fun K hK => ?_) AllReadyH.nil
        go_simp
        refine (ID.out _).mono ?_
        rintro e w3 ⟨rfl, rfl⟩
        refine hK.out _ _ HS2.out (fun hHeld => ?_)
        clear hK K
        try simp only [Act.put, List.setIfInBounds_toArray, List.set_cons_zero, List.set_cons_succ]
        refine wpAnyH_take (i := 6) (oi := ?oi6_12) (v := ?v6_12) ?hi6_12 (by kernel_rfl) ?hf6_12 (by kernel_rfl) ?hq6_12 ?hy6_12 hHeld ?rest6_12
        case hi6_12 => (simp only [List.getElem?_toArray, List.getElem?_cons_succ, List.getElem?_cons_zero]; try exact rfl)
        case hf6_12 => kernel_rfl
        case hq6_12 => exact fun _ _ _ h => h
        case hy6_12 => (refine Or.inl ⟨rfl, ?_⟩; intro w hSw; (try dsimp only at hSw); go_simp; try with_reducible rfl)
        try simp only [Act.put, List.setIfInBounds_toArray, List.set_cons_zero, List.set_cons_succ]
        refine wpAnyH_take (i := 7) (oi := ?oi7_13) (v := ?v7_13) ?hi7_13 (by kernel_rfl) ?hf7_13 (by kernel_rfl) ?hq7_13 ?hy7_13 hHeld ?rest7_13
        case hi7_13 => (simp only [List.getElem?_toArray, List.getElem?_cons_succ, List.getElem?_cons_zero]; try exact rfl)
        case hf7_13 => kernel_rfl
        case hq7_13 => exact fun _ _ _ h => h
        case hy7_13 => (refine Or.inl ⟨rfl, ?_⟩; intro w hSw; (try dsimp only at hSw); go_simp; try with_reducible rfl)
        try simp only [Act.put, List.setIfInBounds_toArray, List.set_cons_zero, List.set_cons_succ]
        refine wpAnyH_ready (rs := [11]) (by kernel_rfl) (by simp) ?_
        refine AllReadyH.cons (by simp only [List.getElem?_toArray, List.getElem?_cons_succ, List.getElem?_cons_zero]; try exact rfl) (fun K hK => ?_) AllReadyH.nil
        go_simp
        refine (IHL.out _ HB2.out).mono ?_
        rintro e w3 ⟨rfl, hb⟩
        have HB3 := Lib.hid (bt hb HB2.out)
        have HS3 := Lib.hid (nts_up HS2.out hb (by rw [HZ2.out]; omega))
        have HZ3 := Lib.hid (Nat.le_trans (Nat.le_of_eq HZ2.out.symm) hb.size)
        clear hb
        refine hK.out _ _ HS3.out (fun hHeld => ?_)
        clear hK K
        try simp only [Act.put, List.setIfInBounds_toArray, List.set_cons_zero, List.set_cons_succ]
        refine wpAnyH_take (i := 12) (oi := ?oi12_14) (v := ?v12_14) ?hi12_14 (by kernel_rfl) ?hf12_14 (by kernel_rfl) ?hq12_14 ?hy12_14 hHeld ?rest12_14
        case hi12_14 => (simp only [List.getElem?_toArray, List.getElem?_cons_succ, List.getElem?_cons_zero]; try exact rfl)
        case hf12_14 => kernel_rfl
        case hq12_14 => exact fun _ _ _ h => h
        case hy12_14 => (refine Or.inl ⟨rfl, ?_⟩; intro w hSw; (try dsimp only at hSw); go_simp; try with_reducible rfl)
        try simp only [Act.put, List.setIfInBounds_toArray, List.set_cons_zero, List.set_cons_succ]
        refine wpAnyH_take (i := 13) (oi := ?oi13_15) (v := ?v13_15) ?hi13_15 (by kernel_rfl) ?hf13_15 (by kernel_rfl) ?hq13_15 ?hy13_15 hHeld ?rest13_15
        case hi13_15 => (simp only [List.getElem?_toArray, List.getElem?_cons_succ, List.getElem?_cons_zero]; try exact rfl)
        case hf13_15 => kernel_rfl
        case hq13_15 => exact fun _ _ _ h => h
        case hy13_15 => (refine Or.inl ⟨rfl, ?_⟩; intro w hSw; (try dsimp only at hSw); go_simp; try with_reducible rfl)
        try simp only [Act.put, List.setIfInBounds_toArray, List.set_cons_zero, List.set_cons_succ]
        refine wpAnyH_ready (rs := [17]) (by kernel_rfl) (by simp) ?_
        refine AllReadyH.cons (by simp only [List.getElem?_toArray, List.getElem?_cons_succ, List.getElem?_cons_zero]; try exact rfl) (fun K hK => ?_) AllReadyH.nil
        go_simp
        refine (IHR.out _ HB3.out).mono ?_
        rintro e w4 ⟨rfl, hb⟩
        have HB4 := Lib.hid (bt hb HB3.out)
        have HS4 := Lib.hid (nts_up HS3.out hb HZ3.out)
        clear hb
        refine hK.out _ _ HS4.out (fun hHeld => ?_)
        clear hK K
        try simp only [Act.put, List.setIfInBounds_toArray, List.set_cons_zero, List.set_cons_succ]
        refine wpAnyH_take (i := 18) (oi := ?oi18_16) (v := ?v18_16) ?hi18_16 (by kernel_rfl) ?hf18_16 (by kernel_rfl) ?hq18_16 ?hy18_16 hHeld ?rest18_16
        case hi18_16 => (simp only [List.getElem?_toArray, List.getElem?_cons_succ, List.getElem?_cons_zero]; try exact rfl)
        case hf18_16 => kernel_rfl
        case hq18_16 => exact fun _ _ _ h => h
        case hy18_16 => (refine Or.inl ⟨rfl, ?_⟩; intro w hSw; (try dsimp only at hSw); go_simp; try with_reducible rfl)
        try simp only [Act.put, List.setIfInBounds_toArray, List.set_cons_zero, List.set_cons_succ]
        refine wpAnyH_take (i := 19) (oi := ?oi19_17) (v := ?v19_17) ?hi19_17 (by kernel_rfl) ?hf19_17 (by kernel_rfl) ?hq19_17 ?hy19_17 hHeld ?rest19_17
        case hi19_17 => (simp only [List.getElem?_toArray, List.getElem?_cons_succ, List.getElem?_cons_zero]; try exact rfl)
        case hf19_17 => kernel_rfl
        case hq19_17 => exact fun _ _ _ h => h
        case hy19_17 => (refine Or.inl ⟨rfl, ?_⟩; intro w hSw; (try dsimp only at hSw); go_simp; try with_reducible rfl)
        try simp only [Act.put, List.setIfInBounds_toArray, List.set_cons_zero, List.set_cons_succ]
        refine wpAnyH_take (i := 20) (oi := ?oi20_18) (v := ?v20_18) ?hi20_18 (by kernel_rfl) ?hf20_18 (by kernel_rfl) ?hq20_18 ?hy20_18 hHeld ?rest20_18
        case hi20_18 => (simp only [List.getElem?_toArray, List.getElem?_cons_succ, List.getElem?_cons_zero]; try exact rfl)
        case hf20_18 => kernel_rfl
        case hq20_18 => exact fun _ _ _ h => h
        case hy20_18 => (refine Or.inl ⟨rfl, ?_⟩; intro w hSw; (try dsimp only at hSw); go_simp; try with_reducible rfl)
        try simp only [Act.put, List.setIfInBounds_toArray, List.set_cons_zero, List.set_cons_succ]
        refine wpAnyH_done (by kernel_rfl) ?_ _
        go_wp2_with fail
        go_ret
        exact ⟨by rw [F.out]; rfl, HB4.out⟩
      · obtain ⟨ac, x, ea, _, lac, hx, hcx⟩ := HROW.out k (by rw [HCN.out]; omega)
        subst ea
        have hxb := HK4.out x (List.mem_of_getElem? hx)
        have l3 : (ac.add k).block < w.heap.size := by rw [add_block]; exact lac
        have lac1 : ac.block < w.heap.size := lac
        have hkc : k < cn := by omega
        have hnx := coefT_next hx
        obtain ⟨P0, hP0⟩ : ∃ x, 40 :: coefT (c.take k) = x := ⟨_, rfl⟩
        have y0 : P0.length ≤ 200 := by rw [← hP0, List.length_cons]; omega
        obtain ⟨LX, hLX⟩ : ∃ y, Lib.itoa x = y := ⟨_, rfl⟩
        have yx := itoa_len x (by omega) (by omega)
        obtain ⟨P1, hP1⟩ : ∃ x, P0 ++ LX = x := ⟨_, rfl⟩
        have y1 : P1.length = P0.length + LX.length := by rw [← hP1]; simp
        obtain ⟨P2, hP2⟩ : ∃ x, P1 ++ [32] = x := ⟨_, rfl⟩
        rw [hLX] at yx
        have HR := Lib.hid (fun (i : Value) (h1 : i = .int .i64 ((k : Int) + 1)) => show NtRel c (.string ⟨P2.toArray⟩) i from ⟨k + 1, by rw [HCN.out]; omega, by rw [h1]; congr 1, by rw [hnx, ← hP2, ← hP1, ← hP0, ← hLX]; simp⟩)
        have e1 : (⟨P0.toArray⟩ : ByteArray) ++ (⟨LX.toArray⟩ : ByteArray) = ⟨P1.toArray⟩ := cat_eq P0 LX P1 hP1
        have e2 : (⟨P1.toArray⟩ : ByteArray) ++ (⟨#[32]⟩ : ByteArray) = ⟨P2.toArray⟩ := cat_eq P1 [32] P2 hP2
        have n1 : ¬ 9223372036854775807 < P0.length + LX.length := by omega
        have n2 : ¬ 9223372036854775807 < P1.length + 1 := by omega
        have s1 : ¬ 9223372036854775807 < (⟨P0.toArray⟩ : ByteArray).size + (⟨LX.toArray⟩ : ByteArray).size := by rw [sz, sz]; omega
        have s2 : ¬ 9223372036854775807 < (⟨P1.toArray⟩ : ByteArray).size + 1 := by rw [sz]; omega
        have HD := Lib.hid (fun W => by have := DigW.Digits_any x W (by omega) (by omega); rw [hLX] at this; exact this : ∀ W : World, Calls Tryd.prog 49 #[.int .i64 x] W fun e w' => e = .returned (.string ⟨LX.toArray⟩) ∧ W = w')
        rw [hP0]
        clear hx hxb hnx hP0 hLX hP1 hP2 y0 yx y1 lk
        go_wp2_with fail
        refine (HD.out _).mono ?_
        rintro e w1 ⟨rfl, rfl⟩
        go_wp2_with fail
        exact ⟨HR.out _ (by first | rfl | go_num), by simp [intOf]; omega⟩
set_option maxHeartbeats 4000000 in
set_option maxRecDepth 100000 in
theorem RText_any (dim : Int) (nv : Value) (ls : List Nd) (lo : Nat) (w : World) (h : Nds w lo w.heap.size nv ls) (hl7 : ls.length ≤ 1000000) :
    Calls Tryd.prog 30 #[.agg #[.int .i64 dim, nv]] w fun e w' => e = .returned (.string ⟨(textOf dim ls).toArray⟩) ∧ Below w.heap.size w w' := by
  have HI := Lib.hid (fun (W : World) (hb : Below w.heap.size w W) => RTIs_any nv ls dim lo W (h.up hb) hl7)
  obtain ⟨A, cap, rfl, hc1, hc2, _⟩ := h.form
  obtain ⟨n, hn⟩ : ∃ n, ls.length = n := ⟨_, rfl⟩
  by_cases hT : IsT dim ls
  · obtain ⟨hd1, hd2, b, hat, hct, hok, hsz, hhi⟩ := id hT
    have hn1 := (isT_len hT).2
    rw [isTB_true.2 hT] at HI
    have HN := Lib.hid (fun (W : World) (hb : Below w.heap.size w W) => node_any (dim := dim) hn1 b 0 0 W rfl hat hok hsz (by omega) (h.up hb))
    have tl := txt_len b hok hsz
    have lla := itoa_len dim (by omega) (by omega)
    obtain ⟨TL, hTL⟩ : ∃ x, txt b = x := ⟨_, rfl⟩
    obtain ⟨LA, hLA⟩ : ∃ x, Lib.itoa dim = x := ⟨_, rfl⟩
    obtain ⟨L1, hL1⟩ : ∃ x, LA ++ [58] = x := ⟨_, rfl⟩
    have z1 : L1.length = LA.length + 1 := by rw [← hL1]; simp
    obtain ⟨L2, hL2⟩ : ∃ x, L1 ++ TL = x := ⟨_, rfl⟩
    have F := Lib.hid (show textOf dim ls = L2 by rw [textOf_tree hT hat, ← hL2, ← hL1, ← hTL, ← hLA]; simp [text])
    rw [hTL] at tl HN
    rw [hLA] at lla
    have e1 : (⟨LA.toArray⟩ : ByteArray) ++ (⟨#[58]⟩ : ByteArray) = ⟨L1.toArray⟩ := cat_eq LA [58] L1 hL1
    have e2 : (⟨L1.toArray⟩ : ByteArray) ++ (⟨TL.toArray⟩ : ByteArray) = ⟨L2.toArray⟩ := cat_eq L1 TL L2 hL2
    have n1 : ¬ 9223372036854775807 < LA.length + 1 := by omega
    have n2 : ¬ 9223372036854775807 < L1.length + TL.length := by omega
    have s1 : ¬ 9223372036854775807 < (⟨LA.toArray⟩ : ByteArray).size + 1 := by rw [sz]; omega
    have s2 : ¬ 9223372036854775807 < (⟨L1.toArray⟩ : ByteArray).size + (⟨TL.toArray⟩ : ByteArray).size := by rw [sz, sz]; omega
    have ID := Lib.hid (fun W => by have := DigW.Digits_any dim W (by omega) (by omega); rw [hLA] at this; exact this : ∀ W : World, Calls Tryd.prog 49 #[.int .i64 dim] W fun e w' => e = .returned (.string ⟨LA.toArray⟩) ∧ W = w')
    rw [hn] at HI HN hc1 ⊢
    clear h hat hT hok hsz hhi hTL hLA hL1 hL2 z1 tl lla hct hn1
    go_enter Tryd.func30, Tryd.ntmps30
    go_wp2_with fail
    refine (HI.out _ (below_a1 _ _)).mono ?_
    rintro e w1 ⟨rfl, hb1⟩
    have k0 : Boxed2 w1 w.heap.size dim (.slice A n cap) := (hb1.block _ (by simp)).trans (heap_alloc_new w _)
    have HB1 := Lib.hid (bt hb1 (below_a1 w _))
    have HK0 := Lib.hid k0
    obtain ⟨t0, t1⟩ := k0.cells
    have lz : w.heap.size < w1.heap.size := (Array.getElem?_eq_some_iff.1 k0).1
    clear hb1 k0
    go_wp2_with fail
    refine wp_region_held_drew (S := fun w' => w'.cell? ⟨w.heap.size, 0, none⟩ = some (.int .i64 dim) ∧ w'.cell? ⟨w.heap.size, 1, none⟩ = some (.slice A n cap)) (by kernel_rfl) ⟨t0, t1⟩ (fun hHeld => ?_)
    have hx := bt (Below.refl w1.heap.size w1).drew HB1.out
    have hk := HK0.out.below (Below.refl w1.heap.size w1).drew lz
    have hlz : w.heap.size < w1.drew.heap.size := lz
    obtain ⟨w2, hw2⟩ : ∃ W, w1.drew = W := ⟨_, rfl⟩
    rw [hw2] at hx hk hlz hHeld ⊢
    have HB2 := Lib.hid hx
    have HK2 := Lib.hid hk
    have HZ2 := Lib.hid hlz
    clear hx hk hlz hw2 t0 t1 lz
    refine wpAnyH_take (i := 0) (oi := ?oi0_19) (v := ?v0_19) ?hi0_19 (by kernel_rfl) ?hf0_19 (by kernel_rfl) ?hq0_19 ?hy0_19 hHeld ?rest0_19
    case hi0_19 => (simp only [List.getElem?_toArray, List.getElem?_cons_zero]; try exact rfl)
    case hf0_19 => kernel_rfl
    case hq0_19 => exact fun _ _ _ h => h
    case hy0_19 => (refine Or.inl ⟨rfl, ?_⟩; intro w hSw; (try dsimp only at hSw); go_simp; try with_reducible rfl)
    try simp only [Act.put, List.setIfInBounds_toArray, List.set_cons_zero, List.set_cons_succ]
    refine wpAnyH_take (i := 1) (oi := ?oi1_20) (v := ?v1_20) ?hi1_20 (by kernel_rfl) ?hf1_20 (by kernel_rfl) ?hq1_20 ?hy1_20 hHeld ?rest1_20
    case hi1_20 => (simp only [List.getElem?_toArray, List.getElem?_cons_succ, List.getElem?_cons_zero]; try exact rfl)
    case hf1_20 => kernel_rfl
    case hq1_20 => exact fun _ _ _ h => h
    case hy1_20 => (refine Or.inl ⟨rfl, ?_⟩; intro w hSw; (try dsimp only at hSw); go_simp; try with_reducible rfl)
    try simp only [Act.put, List.setIfInBounds_toArray, List.set_cons_zero, List.set_cons_succ]
    refine wpAnyH_take (i := 4) (oi := ?oi4_21) (v := ?v4_21) ?hi4_21 (by kernel_rfl) ?hf4_21 (by kernel_rfl) ?hq4_21 ?hy4_21 hHeld ?rest4_21
    case hi4_21 => (simp only [List.getElem?_toArray, List.getElem?_cons_succ, List.getElem?_cons_zero]; try exact rfl)
    case hf4_21 => kernel_rfl
    case hq4_21 => exact fun _ _ _ h => h
    case hy4_21 => (refine Or.inl ⟨rfl, ?_⟩; intro w hSw; (try dsimp only at hSw); go_simp; try with_reducible rfl)
    try simp only [Act.put, List.setIfInBounds_toArray, List.set_cons_zero, List.set_cons_succ]
    refine wpAnyH_ready (rs := [2]) (by kernel_rfl) (by simp) ?_
    refine AllReadyH.cons (by simp only [List.getElem?_toArray, List.getElem?_cons_succ, List.getElem?_cons_zero]; try exact rfl) (fun K hK => ?_) AllReadyH.nil
    go_simp
    refine (ID.out _).mono ?_
    rintro e w3 ⟨rfl, rfl⟩
    refine hK.out _ _ HK2.out.cells (fun hHeld => ?_)
    clear hK K
    try simp only [Act.put, List.setIfInBounds_toArray, List.set_cons_zero, List.set_cons_succ]
    refine wpAnyH_take (i := 3) (oi := ?oi3_22) (v := ?v3_22) ?hi3_22 (by kernel_rfl) ?hf3_22 (by kernel_rfl) ?hq3_22 ?hy3_22 hHeld ?rest3_22
    case hi3_22 => (simp only [List.getElem?_toArray, List.getElem?_cons_succ, List.getElem?_cons_zero]; try exact rfl)
    case hf3_22 => kernel_rfl
    case hq3_22 => exact fun _ _ _ h => h
    case hy3_22 => (refine Or.inl ⟨rfl, ?_⟩; intro w hSw; (try dsimp only at hSw); go_simp; try with_reducible rfl)
    try simp only [Act.put, List.setIfInBounds_toArray, List.set_cons_zero, List.set_cons_succ]
    refine wpAnyH_ready (rs := [5]) (by kernel_rfl) (by simp) ?_
    refine AllReadyH.cons (by simp only [List.getElem?_toArray, List.getElem?_cons_succ, List.getElem?_cons_zero]; try exact rfl) (fun K hK => ?_) AllReadyH.nil
    go_simp
    refine (HN.out _ HB2.out).mono ?_
    rintro e w3 ⟨rfl, hb⟩
    have HB3 := Lib.hid (bt hb HB2.out)
    have HK3 := Lib.hid (HK2.out.below hb HZ2.out)
    clear hb
    refine hK.out _ _ HK3.out.cells (fun hHeld => ?_)
    clear hK K
    try simp only [Act.put, List.setIfInBounds_toArray, List.set_cons_zero, List.set_cons_succ]
    refine wpAnyH_take (i := 6) (oi := ?oi6_23) (v := ?v6_23) ?hi6_23 (by kernel_rfl) ?hf6_23 (by kernel_rfl) ?hq6_23 ?hy6_23 hHeld ?rest6_23
    case hi6_23 => (simp only [List.getElem?_toArray, List.getElem?_cons_succ, List.getElem?_cons_zero]; try exact rfl)
    case hf6_23 => kernel_rfl
    case hq6_23 => exact fun _ _ _ h => h
    case hy6_23 => (refine Or.inl ⟨rfl, ?_⟩; intro w hSw; (try dsimp only at hSw); go_simp; try with_reducible rfl)
    try simp only [Act.put, List.setIfInBounds_toArray, List.set_cons_zero, List.set_cons_succ]
    refine wpAnyH_take (i := 7) (oi := ?oi7_24) (v := ?v7_24) ?hi7_24 (by kernel_rfl) ?hf7_24 (by kernel_rfl) ?hq7_24 ?hy7_24 hHeld ?rest7_24
    case hi7_24 => (simp only [List.getElem?_toArray, List.getElem?_cons_succ, List.getElem?_cons_zero]; try exact rfl)
    case hf7_24 => kernel_rfl
    case hq7_24 => exact fun _ _ _ h => h
    case hy7_24 => (refine Or.inl ⟨rfl, ?_⟩; intro w hSw; (try dsimp only at hSw); go_simp; try with_reducible rfl)
    try simp only [Act.put, List.setIfInBounds_toArray, List.set_cons_zero, List.set_cons_succ]
    refine wpAnyH_done (by kernel_rfl) ?_ _
    go_wp2_with fail
    go_ret
    exact ⟨by rw [F.out]; rfl, HB3.out⟩
  · rw [isTB_false.2 hT] at HI
    have F := Lib.hid (textOf_none hT)
    rw [hn] at HI hc1 ⊢
    clear h hT
    go_enter Tryd.func30, Tryd.ntmps30
    go_wp2_with fail
    refine (HI.out _ (below_a1 _ _)).mono ?_
    rintro e w1 ⟨rfl, hb1⟩
    have HB1 := Lib.hid (bt hb1 (below_a1 w _))
    clear hb1
    go_wp2_with fail
    go_ret
    exact ⟨by rw [F.out]; rfl, HB1.out⟩
end Go.Proofs.YtmmgfelifmdnbaaDoor.RftW

/- The reference's Parse. -/
namespace Go.Proofs.YtmmgfelifmdnbaaDoor.RfsW
set_option linter.unusedVariables false
open Go.RowKit Go.Shelf Base SeqM ShpM ShpT ShpV ItrD ItrG TxtM GlbS WrtM RdrW PrsM PruW PrsS RfpM RfnW KeeW RfdW RftW ParW TexW

theorem RS.keepT {n0 : Nat} {v : Value} {rs : List (Value × Nd)} {W W' : World} (h : RS n0 v rs W) (hk : ∀ (k : Nat) (t : TypeId), Typ W k t → (t = 39 ∨ t = 3) → W'.heap[k]? = W.heap[k]?) : RS n0 v rs W' :=
  ⟨own_keep h.own fun k _ hT => hk k _ hT (.inl rfl), fun r hr => own_keep (h.coef r hr) fun k _ hT => hk k _ hT (.inr rfl)⟩
theorem box_ne {W : World} {k b : Nat} {t : TypeId} {cs : Array Value} (hT : Typ W k t) (ht : t = 39 ∨ t = 3) (h : W.heap[b]? = some (.cells cs 24 (0, 0))) : k ≠ b := fun e => by
  subst e
  have := hT.eq ⟨_, _, h⟩
  subst this
  rcases ht with e | e <;> revert e <;> decide
set_option maxHeartbeats 4000000 in
set_option maxRecDepth 100000 in
theorem RParse_any (s : List UInt8) (w : World) (hs : s.length ≤ 1000000) :
    Calls Tryd.prog 29 #[.string ⟨s.toArray⟩] w (PPost w (parseR s)) := by
  rw [← rparse_eq]
  have g0 := heap_alloc_new w (.cells #[.int .i64 0, .slice none 0 0] 24)
  have b0 := below_a1 w (.cells #[.int .i64 0, .slice none 0 0] 24)
  obtain ⟨w0, hw0⟩ : ∃ w0, w.alloc (.cells #[.int .i64 0, .slice none 0 0] 24) = w0 := ⟨_, rfl⟩
  have hz0 : w0.heap.size = w.heap.size + 1 := by rw [← hw0]; simp
  rw [hw0] at g0 b0
  have HB0 := Lib.hid b0
  have HG0 := Lib.hid g0
  obtain ⟨nn, hnn⟩ : ∃ nn, numR s 0 = nn := ⟨_, rfl⟩
  obtain ⟨dim, en⟩ := nn
  have hnl := numR_le s 0
  rw [hnn] at hnl
  dsimp only at hnl
  have hen : en ≤ s.length := by
    by_cases hx : en = 0
    · omega
    · exact hnl.2.1 hx
  have HNN := Lib.hid hnn
  have HS := Lib.hid hs
  obtain ⟨P, hP⟩ : ∃ P, readR s 7 (en + 1) [] = P := ⟨_, rfl⟩
  have HP := Lib.hid hP
  obtain ⟨ns, x1, x2, _⟩ := readR_ext s 7 (en + 1) []
  rw [hP, List.nil_append] at x1
  have hpl : P.1.length ≤ 127 := by rw [x1]; omega
  have F := Lib.hid (show rparseR s = if s ≠ [] ∧ textOf dim P.1 = s then (dim, P.1, 0) else (0, [], 20) by unfold rparseR; rw [hnn]; dsimp only; rw [hP])
  have HE := Lib.hid hen
  have hen2 : en ≤ 1000000 := by omega
  clear hnl x1 x2 hP hnn g0 b0 hs hen
  go_enter Tryd.func29, Tryd.ntmps29
  go_wp2_with fail
  refine (numR_at _ HS.out (by omega) rfl HNN.out).mono ?_
  rintro r w1 ⟨rfl, rfl⟩
  go_wp2_with fail
  refine (read_any s HS.out w0.heap.size 7 (en + 1) _ 6 w0 (.slice none 0 0) [] (by omega) (by omega) (by omega) (by have := HE.out; omega) (Nat.le_refl _) ⟨World.ownsRow_nil _ _ _ _, by simp⟩ (by simp)).mono ?_
  rintro e w1 ⟨v, rs, rfl, hm, hRS, hK⟩
  rw [List.map_nil, HP.out] at hm ⊢
  have HM := Lib.hid hm
  obtain ⟨VA, vc, rfl⟩ := slice_of_own hRS.own
  obtain ⟨vn, hvn⟩ : ∃ vn, rs.length = vn := ⟨_, rfl⟩
  have HVN := Lib.hid hvn
  rw [hvn] at hRS hK ⊢
  have HRS := Lib.hid hRS
  have HB1 := Lib.hid (HB0.out.trans (hK.1.mono (by omega)) : Below w.heap.size w w1)
  have k0 : w1.heap[w.heap.size]? = some (.cells #[.int .i64 0, .slice none 0 0] 24 (0, 0)) := (hK.2.1 _ (by omega) (by simp [Value.ownBlock])).trans HG0.out
  have HK0 := Lib.hid k0
  have HNDS := Lib.hid (fun (W : World) (hb : Below w1.heap.size w1 W) => by have := (hRS.nds).up hb; rw [hm] at this; exact this)
  obtain ⟨z0, z1⟩ := Boxed2.cells k0
  have zf : ∀ o, w1.frozen? ⟨w.heap.size, o, none⟩ = false := fun o => by simp [World.frozen?, k0]
  have lz : w.heap.size < w1.heap.size := (Array.getElem?_eq_some_iff.1 k0).1
  have k8 := heap_alloc_new w1 (.cells #[.int .i64 dim, .slice VA vn vc] 24)
  clear hm hvn hRS hK k0
  by_cases hse : s = []
  · have FF := F.out
    rw [if_neg (fun h => h.1 hse)] at FF
    have F := Lib.hid FF
    subst hse
    clear FF k8
    go_wp2_with fail
    refine bodyPost_ret (v := .tuple #[.agg #[.int .i64 0, .slice none 0 0], .int .i64 20]) (by simp only [results]; go_simp) rfl ?_
    exact pp_no F.out (bt (below_a1 _ _) ((HB1.out.setCell (p := ⟨w.heap.size, 0, none⟩) (Nat.le_refl _) _).setCell (p := ⟨w.heap.size, 1, none⟩) (Nat.le_refl _) _))
  · have hse1 : (s == []) = false := beq_eq_false_iff_ne.2 hse
    have hse2 : s.isEmpty = false := by cases s with
      | nil => exact absurd rfl hse
      | cons c r => rfl
    have HSE := Lib.hid hse
    obtain ⟨t0, t1⟩ := Boxed2.cells k8
    clear hse
    obtain ⟨w2, hw2⟩ : ∃ W, w1.alloc (.cells #[.int .i64 dim, .slice VA vn vc] 24) = W := ⟨_, rfl⟩
    have hb2 := below_a1 w1 (.cells #[.int .i64 dim, .slice VA vn vc] 24)
    have hz2 : w2.heap.size = w1.heap.size + 1 := by rw [← hw2]; simp
    rw [hw2] at t0 t1 hb2 k8
    have HB2 := Lib.hid hb2
    have HK8 := Lib.hid k8
    clear hb2 k8
    go_wp2_with fail
    refine (RText_any dim _ P.1 _ w2 (HNDS.out _ HB2.out) (by omega)).mono ?_
    rintro e w3 ⟨rfl, hb3⟩
    have HB3 := Lib.hid (bt hb3 (bt HB2.out HB1.out))
    have HB13 := Lib.hid (bt hb3 HB2.out)
    have k3 : w3.heap[w.heap.size]? = some (.cells #[.int .i64 0, .slice none 0 0] 24 (0, 0)) := (HB13.out.block _ lz).trans HK0.out
    have k38 : w3.heap[w1.heap.size]? = some (.cells #[.int .i64 dim, .slice VA vn vc] 24 (0, 0)) := (hb3.block _ (by omega)).trans HK8.out
    have HK3 := Lib.hid k3
    clear z0 z1 zf t0 t1 hb3 hw2 hz2
    obtain ⟨z0, z1⟩ := Boxed2.cells k3
    have zf : ∀ o, w3.frozen? ⟨w.heap.size, o, none⟩ = false := fun o => by simp [World.frozen?, k3]
    obtain ⟨t0, t1⟩ := Boxed2.cells k38
    have lz3 : w.heap.size < w3.heap.size := (Array.getElem?_eq_some_iff.1 k3).1
    have lt3 : w1.heap.size < w3.heap.size := (Array.getElem?_eq_some_iff.1 k38).1
    have hne : w1.heap.size ≠ w.heap.size := by omega
    have hne' : w.heap.size ≠ w1.heap.size := by omega
    obtain ⟨T, hT⟩ : ∃ T, textOf dim P.1 = T := ⟨_, rfl⟩
    rw [hT] at F ⊢
    have HT := Lib.hid hT
    clear k3 k38 hT
    by_cases hTs : T = s
    · have F := Lib.hid (F.out.trans (if_pos ⟨HSE.out, hTs⟩))
      have hq1 : (T == s) = true := beq_iff_eq.2 hTs
      have hq2 : (T != s) = false := by rw [bne, hq1]; rfl
      clear hTs
      go_wp2_with fail
      refine bodyPost_ret (v := .tuple #[.agg #[.int .i64 dim, .slice VA vn vc], .int .i64 0]) (by simp only [results]; go_simp) rfl ?_
      have hBF := (HB3.out.setCell (p := ⟨w.heap.size, 0, none⟩) (Nat.le_refl _) (.int .i64 dim)).setCell (p := ⟨w.heap.size, 1, none⟩) (Nat.le_refl _) (.slice VA vn vc)
      have hRF := RfsW.RS.keepT (HRS.out.below HB13.out) (W' := (w3.setCell ⟨w.heap.size, 0, none⟩ (.int .i64 dim)).setCell ⟨w.heap.size, 1, none⟩ (.slice VA vn vc)) (fun k t hT ht => (Below.heap_setCell _ _ _ k (box_ne hT ht HK3.out)).trans (Below.heap_setCell _ _ _ k (box_ne hT ht HK3.out)))
      have hN := hRF.nds
      rw [HM.out] at hN
      unfold PPost
      rw [F.out]
      exact ⟨⟨_, rfl, hN.more (by omega) (Nat.le_refl _)⟩, hBF⟩
    · have F := Lib.hid (F.out.trans (if_neg (fun h => hTs h.2)))
      have hq1 : (T == s) = false := beq_eq_false_iff_ne.2 hTs
      have hq2 : (T != s) = true := by rw [bne, hq1]; rfl
      clear hTs
      go_wp2_with fail
      refine bodyPost_ret (v := .tuple #[.agg #[.int .i64 0, .slice none 0 0], .int .i64 20]) (by simp only [results]; go_simp) rfl ?_
      exact pp_no F.out ((HB3.out.setCell (p := ⟨w.heap.size, 0, none⟩) (Nat.le_refl _) _).setCell (p := ⟨w.heap.size, 1, none⟩) (Nat.le_refl _) _)
end Go.Proofs.YtmmgfelifmdnbaaDoor.RfsW

/- The walk of the law ShapeTexts. -/
namespace Go.Proofs.YtmmgfelifmdnbaaDoor.TxsW
set_option linter.unusedVariables false
open Go.RowKit Go.Shelf Base SeqM ShpM ShpV ShpW ShpD ShpT ShpI ShpJ ShpR ShpU ShpX ItrD ItrK ItrF ItrG GlbS LivW PrsD ParW TexW RftW RfsW TxtM WrtM

theorem much_len {ls : List Nd} (h : muchB ls = false) : ls.length ≤ 1000000 := by
  unfold muchB at h
  rw [Bool.or_eq_false_iff] at h
  have := of_decide_eq_false h.1
  omega
theorem read_back {s : List UInt8} {pd : Int} {pl : List Nd} {pe : Int} (h : parseR s = (pd, pl, pe)) : pe ≠ 0 ∨ (pe = 0 ∧ textOf pd pl = s) := by
  by_cases he : pe = 0
  · subst he
    obtain ⟨hT, b, hat, hs⟩ := parse_sound h
    exact .inr ⟨rfl, by rw [textOf_tree hT hat, hs]⟩
  · exact .inl he
theorem text_back {dim : Int} {ls : List Nd} (h : IsT dim ls) : parseR (textOf dim ls) = (dim, ls, 0) := by
  obtain ⟨h1, h2, b, hat, hct, hok, hsz, hhi⟩ := id h
  rw [textOf_tree h hat, parse_text h1 h2 hok hsz hhi, ← at_full hat hct]
theorem text_none {dim : Int} {ls : List Nd} (h : ¬ IsT dim ls) : textOf dim ls = [] ∧ parseR [] = (0, [], 20) :=
  ⟨textOf_none h, parse_fail (fun dim b _ e => by have := congrArg List.length e; simp [text] at this)⟩
theorem text_short (dim : Int) (ls : List Nd) : (textOf dim ls).length ≤ 1000000 := by
  by_cases h : IsT dim ls
  · obtain ⟨h1, h2, b, hat, hct, hok, hsz, hhi⟩ := id h
    have hl := (isT_len h).2
    have := txt_len b hok hsz
    have := itoa_len dim (by omega) (by omega)
    rw [textOf_tree h hat, text, List.length_append, List.length_cons]
    omega
  · rw [textOf_none h]; simp
set_option maxHeartbeats 8000000 in
set_option maxRecDepth 100000 in
theorem ShapeTexts_any (dim : Int) (nv : Value) (ls : List Nd) (s : List UInt8) (w : World) (h : Nds w 0 w.heap.size nv ls) (hG : G w) :
    Calls Tryd.prog 6 #[.agg #[.int .i64 dim, nv], .string ⟨s.toArray⟩] w fun e w' => e = .returned (.bool true) ∧ Below w.heap.size w w' := by
  obtain ⟨A, c, rfl, _, _, _⟩ := h.form
  obtain ⟨n, hn⟩ : ∃ n, ls.length = n := ⟨_, rfl⟩
  obtain ⟨sl, hsl⟩ : ∃ n, s.length = n := ⟨_, rfl⟩
  have hss : s.toArray.size = sl := by simpa using hsl
  have X0 := Lib.hid (show LV w w.heap.size dim A ls.length c ls (w.alloc (.cells #[.int .i64 dim, .slice A ls.length c] 24)) from ⟨heap_alloc_new w _, h.up (below_a1 _ _), below_a1 _ _⟩)
  have HG := Lib.hid hG
  have HL7 := Lib.hid (fun h => much_len (ls := ls) h)
  have HSL := Lib.hid hsl
  obtain ⟨T, hT⟩ : ∃ T, textOf dim ls = T := ⟨_, rfl⟩
  have HT := Lib.hid hT
  have HTL := Lib.hid (show T.length ≤ 1000000 by rw [← hT]; exact text_short dim ls)
  have HTX := Lib.hid (fun (W : World) (hN : Nds W 0 W.heap.size (.slice A ls.length c) ls) (hg : G W) => by have := Text_any dim _ ls 0 W hN hg; rw [hT] at this; exact this)
  have HRT := Lib.hid (fun h7 (W : World) (hN : Nds W 0 W.heap.size (.slice A ls.length c) ls) => by have := RText_any dim _ ls 0 W hN h7; rw [hT] at this; exact this)
  obtain ⟨R, hR⟩ : ∃ R, parseR s = R := ⟨_, rfl⟩
  obtain ⟨pd, pl, pe⟩ := R
  have HR := Lib.hid hR
  have HRB := Lib.hid (read_back hR)
  obtain ⟨m, hm'⟩ : ∃ m, pl.length = m := ⟨_, rfl⟩
  have HM := Lib.hid hm'
  have HNL := Lib.hid hn
  rw [hn] at X0 HL7 HTX HRT ⊢
  clear h hG hn hT hR hm' hsl
  go_enter Tryd.func6, Tryd.ntmps6
  go_wp2_with fail
  refine (Much_any _ _ _ 0 _ X0.out.nds).mono ?_
  rintro e w1 ⟨rfl, hb⟩
  have X1 := Lib.hid (X0.out.below hb)
  clear hb
  obtain ⟨t0, t1⟩ := X1.out.cells
  have lz := X1.out.lt
  cases hm : muchB ls with
  | true =>
    go_wp2_with fail
    refine (lives_any _ (HG.out.below X1.out.low)).mono ?_
    rintro e w2 ⟨rfl, hb⟩
    have X2 := Lib.hid (X1.out.below hb)
    clear hb
    go_wp2_with fail
    go_ret
    exact ⟨rfl, X2.out.low⟩
  | false =>
    have H7 := Lib.hid (HL7.out hm)
    by_cases hx : (sl : Int) > 3000
    · have hd : decide ((sl : Int) > 3000) = true := decide_eq_true hx
      go_wp2_with fail
      refine (lives_any _ (HG.out.below X1.out.low)).mono ?_
      rintro e w2 ⟨rfl, hb⟩
      have X2 := Lib.hid (X1.out.below hb)
      clear hb
      go_wp2_with fail
      go_ret
      exact ⟨rfl, X2.out.low⟩
    · have hd : decide ((sl : Int) > 3000) = false := decide_eq_false hx
      have HS := Lib.hid (show s.length ≤ 1000000 by rw [HSL.out]; omega)
      go_wp2_with fail
      refine (HTX.out _ X1.out.nds (HG.out.below X1.out.low)).mono ?_
      rintro e w2 ⟨rfl, hb⟩
      have X2 := Lib.hid (X1.out.below hb)
      clear hb t0 t1 lz
      obtain ⟨t0, t1⟩ := X2.out.cells
      have lz := X2.out.lt
      go_wp2_with fail
      refine (Parse_any s w2 (HG.out.below X2.out.low) HS.out).mono ?_
      rw [HR.out]
      rintro e w3 ⟨⟨v3, rfl, hN3⟩, hb3⟩
      dsimp only at hN3 ⊢
      obtain ⟨A6, c6, rfl, _, _, _⟩ := hN3.form
      rw [HM.out] at hN3 ⊢
      have X3 := Lib.hid (X2.out.below hb3)
      clear t0 t1 lz hb3
      have Y4 := Lib.hid (show LV w w3.heap.size pd A6 m c6 pl (w3.alloc (.cells #[.int .i64 pd, .slice A6 m c6] 24)) from ⟨heap_alloc_new w3 _, (hN3.more (Nat.zero_le _) (Nat.le_refl _)).up (below_a1 _ _), bt (below_a1 _ _) X3.out.low⟩)
      have X4 := Lib.hid (X3.out.below (below_a1 w3 (.cells #[.int .i64 pd, .slice A6 m c6] 24)))
      clear hN3
      go_wp2_with fail
      refine (RParse_any s _ HS.out).mono ?_
      rw [HR.out]
      rintro e w5 ⟨⟨v5, rfl, hN5⟩, hb5⟩
      dsimp only at hN5 ⊢
      obtain ⟨A8, c8, rfl, _, _, _⟩ := hN5.form
      rw [HM.out] at hN5 ⊢
      have X5 := Lib.hid (X4.out.below hb5)
      have Y5 := Lib.hid (Y4.out.below hb5)
      obtain ⟨b6, hb6⟩ : ∃ b, w3.heap.size = b := ⟨_, rfl⟩
      rw [hb6] at Y5 ⊢
      clear hb5 X4 Y4 hb6
      have Z6 := Lib.hid (show LV w w5.heap.size pd A8 m c8 pl (w5.alloc (.cells #[.int .i64 pd, .slice A8 m c8] 24)) from ⟨heap_alloc_new w5 _, (hN5.more (Nat.zero_le _) (Nat.le_refl _)).up (below_a1 _ _), bt (below_a1 _ _) X5.out.low⟩)
      have X6 := Lib.hid (X5.out.below (below_a1 w5 (.cells #[.int .i64 pd, .slice A8 m c8] 24)))
      have Y6 := Lib.hid (Y5.out.below (below_a1 w5 (.cells #[.int .i64 pd, .slice A8 m c8] 24)))
      obtain ⟨t0, t1⟩ := X5.out.cells
      have lz := X5.out.lt
      obtain ⟨y0, y1⟩ := Y5.out.cells
      have ly := Y5.out.lt
      clear hN5
      go_wp2_with fail
      refine (HRT.out H7.out _ X6.out.nds).mono ?_
      rintro e w7 ⟨rfl, hb⟩
      have X7 := Lib.hid (X6.out.below hb)
      have Y7 := Lib.hid (Y6.out.below hb)
      have Z7 := Lib.hid (Z6.out.below hb)
      obtain ⟨b8, hb8⟩ : ∃ b, w5.heap.size = b := ⟨_, rfl⟩
      rw [hb8] at Z7 ⊢
      clear hb X5 Y5 X6 Y6 Z6 t0 t1 lz y0 y1 ly hb8
      have hTT : (T != T) = false := by simp
      have hpp : (pe != pe) = false := by simp
      obtain ⟨y0, y1⟩ := Y7.out.cells
      have ly := Y7.out.lt
      obtain ⟨z0, z1⟩ := Z7.out.cells
      have lzz := Z7.out.lt
      go_wp2_with fail
      refine (RTSame_any _ _ pl pl _ _ 0 0 _ Y7.out.nds Z7.out.nds).mono ?_
      rintro e w8 ⟨rfl, hb⟩
      rw [sameT_yes ⟨rfl, rfl⟩]
      have X8 := Lib.hid (X7.out.below hb)
      have Y8 := Lib.hid (Y7.out.below hb)
      clear hb X7 Y7 Z7 y0 y1 ly z0 z1 lzz
      obtain ⟨y0, y1⟩ := Y8.out.cells
      have ly := Y8.out.lt
      rcases HRB.out with hpe | ⟨rfl, hts⟩
      · have hpe1 : (pe == 0) = false := beq_eq_false_iff_ne.2 hpe
        clear hpe
        go_wp2_with fail
        clear y0 y1 ly
        obtain ⟨R2, hR2⟩ : ∃ R, parseR T = R := ⟨_, rfl⟩
        obtain ⟨qd, ql, qe⟩ := R2
        have HR2 := Lib.hid hR2
        obtain ⟨qm, hqm⟩ : ∃ m, ql.length = m := ⟨_, rfl⟩
        have HQM := Lib.hid hqm
        clear hR2 hqm
        refine (Parse_any T _ (HG.out.below X8.out.low) HTL.out).mono ?_
        rw [HR2.out]
        rintro e w10 ⟨⟨v10, rfl, hN10⟩, hb10⟩
        dsimp only at hN10 ⊢
        obtain ⟨A10, c10, rfl, _, _, _⟩ := hN10.form
        rw [HQM.out] at hN10 ⊢
        have X10 := Lib.hid (X8.out.below hb10)
        have V11 := Lib.hid (show LV w w10.heap.size qd A10 qm c10 ql (w10.alloc (.cells #[.int .i64 qd, .slice A10 qm c10] 24)) from ⟨heap_alloc_new w10 _, (hN10.more (Nat.zero_le _) (Nat.le_refl _)).up (below_a1 _ _), bt (below_a1 _ _) X10.out.low⟩)
        have X11 := Lib.hid (X10.out.below (below_a1 w10 (.cells #[.int .i64 qd, .slice A10 qm c10] 24)))
        obtain ⟨t0, t1⟩ := X10.out.cells
        have lz := X10.out.lt
        clear hN10 hb10
        go_wp2_with fail
        refine (RTIs_any _ ls _ 0 _ X11.out.nds (by rw [HNL.out]; exact H7.out)).mono ?_
        rintro e w12 ⟨rfl, hb⟩
        have X12 := Lib.hid (X11.out.below hb)
        have V12 := Lib.hid (V11.out.below hb)
        obtain ⟨b10, hb10⟩ : ∃ b, w10.heap.size = b := ⟨_, rfl⟩
        rw [hb10] at V12 ⊢
        clear hb X10 X11 V11 t0 t1 lz hb10
        by_cases hI : IsT dim ls
        · have hq := HR2.out
          rw [← HT.out, text_back hI] at hq
          injection hq with hq1 hq2
          injection hq2 with hq2 hq3
          subst hq1 hq3
          rw [isTB_true.2 hI]
          have HQ2 := Lib.hid hq2
          obtain ⟨t0, t1⟩ := X12.out.cells
          have lz := X12.out.lt
          obtain ⟨v0, v1⟩ := V12.out.cells
          have lv := V12.out.lt
          clear hI hq2
          go_wp2_with fail
          refine (RTSame_any _ _ ql ls _ _ 0 0 _ V12.out.nds X12.out.nds).mono ?_
          rintro e w13 ⟨rfl, hb⟩
          rw [sameT_yes ⟨rfl, HQ2.out.symm⟩]
          have X13 := Lib.hid (X12.out.below hb)
          clear hb t0 t1 lz v0 v1 lv
          go_wp2_with fail
          refine (lives_any _ (HG.out.below X13.out.low)).mono ?_
          rintro e w14 ⟨rfl, hb⟩
          have X14 := Lib.hid (X13.out.below hb)
          clear hb
          go_wp2_with fail
          go_ret
          exact ⟨rfl, X14.out.low⟩
        · obtain ⟨e1, e2⟩ := text_none hI
          have hTe : T = [] := HT.out.symm.trans e1
          have hq := HR2.out
          rw [hTe, e2] at hq
          injection hq with hq1 hq2
          injection hq2 with hq2 hq3
          subst hTe hq3
          rw [isTB_false.2 hI]
          clear e1 e2 hI hq1 hq2
          go_wp2_with fail
          refine (lives_any _ (HG.out.below X12.out.low)).mono ?_
          rintro e w14 ⟨rfl, hb⟩
          have X14 := Lib.hid (X12.out.below hb)
          clear hb
          go_wp2_with fail
          go_ret
          exact ⟨rfl, X14.out.low⟩
      · have HTS := Lib.hid hts
        clear hts
        have hs1 : (s != s) = false := by simp
        have HTY := Lib.hid (fun (W : World) (hN : Nds W 0 W.heap.size (.slice A6 m c6) pl) (hg : G W) => by have := Text_any pd _ pl 0 W hN hg; rw [HTS.out] at this; exact this)
        go_wp2_with fail
        refine (HTY.out _ Y8.out.nds (HG.out.below Y8.out.low)).mono ?_
        rintro e w9 ⟨rfl, hb⟩
        have X8 := Lib.hid (X8.out.below hb)
        clear hb Y8 y0 y1 ly
        go_wp2_with fail
        obtain ⟨R2, hR2⟩ : ∃ R, parseR T = R := ⟨_, rfl⟩
        obtain ⟨qd, ql, qe⟩ := R2
        have HR2 := Lib.hid hR2
        obtain ⟨qm, hqm⟩ : ∃ m, ql.length = m := ⟨_, rfl⟩
        have HQM := Lib.hid hqm
        clear hR2 hqm
        refine (Parse_any T _ (HG.out.below X8.out.low) HTL.out).mono ?_
        rw [HR2.out]
        rintro e w10 ⟨⟨v10, rfl, hN10⟩, hb10⟩
        dsimp only at hN10 ⊢
        obtain ⟨A10, c10, rfl, _, _, _⟩ := hN10.form
        rw [HQM.out] at hN10 ⊢
        have X10 := Lib.hid (X8.out.below hb10)
        have V11 := Lib.hid (show LV w w10.heap.size qd A10 qm c10 ql (w10.alloc (.cells #[.int .i64 qd, .slice A10 qm c10] 24)) from ⟨heap_alloc_new w10 _, (hN10.more (Nat.zero_le _) (Nat.le_refl _)).up (below_a1 _ _), bt (below_a1 _ _) X10.out.low⟩)
        have X11 := Lib.hid (X10.out.below (below_a1 w10 (.cells #[.int .i64 qd, .slice A10 qm c10] 24)))
        obtain ⟨t0, t1⟩ := X10.out.cells
        have lz := X10.out.lt
        clear hN10 hb10
        go_wp2_with fail
        refine (RTIs_any _ ls _ 0 _ X11.out.nds (by rw [HNL.out]; exact H7.out)).mono ?_
        rintro e w12 ⟨rfl, hb⟩
        have X12 := Lib.hid (X11.out.below hb)
        have V12 := Lib.hid (V11.out.below hb)
        obtain ⟨b10, hb10⟩ : ∃ b, w10.heap.size = b := ⟨_, rfl⟩
        rw [hb10] at V12 ⊢
        clear hb X10 X11 V11 t0 t1 lz hb10
        by_cases hI : IsT dim ls
        · have hq := HR2.out
          rw [← HT.out, text_back hI] at hq
          injection hq with hq1 hq2
          injection hq2 with hq2 hq3
          subst hq1 hq3
          rw [isTB_true.2 hI]
          have HQ2 := Lib.hid hq2
          obtain ⟨t0, t1⟩ := X12.out.cells
          have lz := X12.out.lt
          obtain ⟨v0, v1⟩ := V12.out.cells
          have lv := V12.out.lt
          clear hI hq2
          go_wp2_with fail
          refine (RTSame_any _ _ ql ls _ _ 0 0 _ V12.out.nds X12.out.nds).mono ?_
          rintro e w13 ⟨rfl, hb⟩
          rw [sameT_yes ⟨rfl, HQ2.out.symm⟩]
          have X13 := Lib.hid (X12.out.below hb)
          clear hb t0 t1 lz v0 v1 lv
          go_wp2_with fail
          refine (lives_any _ (HG.out.below X13.out.low)).mono ?_
          rintro e w14 ⟨rfl, hb⟩
          have X14 := Lib.hid (X13.out.below hb)
          clear hb
          go_wp2_with fail
          go_ret
          exact ⟨rfl, X14.out.low⟩
        · obtain ⟨e1, e2⟩ := text_none hI
          have hTe : T = [] := HT.out.symm.trans e1
          have hq := HR2.out
          rw [hTe, e2] at hq
          injection hq with hq1 hq2
          injection hq2 with hq2 hq3
          subst hTe hq3
          rw [isTB_false.2 hI]
          clear e1 e2 hI hq1 hq2
          go_wp2_with fail
          refine (lives_any _ (HG.out.below X12.out.low)).mono ?_
          rintro e w14 ⟨rfl, hb⟩
          have X14 := Lib.hid (X12.out.below hb)
          clear hb
          go_wp2_with fail
          go_ret
          exact ⟨rfl, X14.out.low⟩
end Go.Proofs.YtmmgfelifmdnbaaDoor.TxsW
