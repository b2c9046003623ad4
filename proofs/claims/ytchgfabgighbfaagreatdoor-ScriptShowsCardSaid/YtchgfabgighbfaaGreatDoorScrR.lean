/- Reading words, plainly: numerals of 64 bits, a text cut at a byte, what a reader's step must say. No program is in sight. -/
import Derived.Test.YtchgfabgighbfaaGreatDoorScrP
import Derived.Lib.Split
import Derived.Lib.SplitLaws
import Derived.Lib.CountLaws
import Derived.Lib.ParseIntB
namespace Go.Proofs.YtchgfabgighbfaaGreatDoor.ScrR
set_option linter.unusedVariables false
open Go.Lib TxtM ScrM ScrP

def I64 (n : Int) : Prop := -9223372036854775808 ≤ n ∧ n ≤ 9223372036854775807
def U64 (n : Nat) : Prop := n < 18446744073709551616
theorem parseM_dig : ∀ (l : List UInt8) (a : Nat), l.all isD = true → digN a l < 18446744073709551616 → parseUintM (2 ^ 64 - 1) a l = .ok (digN a l)
  | [], a, _, _ => rfl
  | c :: r, a, h, hb => by
    rw [List.all_cons, Bool.and_eq_true] at h
    have hc : 48 ≤ c.toNat ∧ c.toNat ≤ 57 := of_decide_eq_true h.1
    have hb' : digN (a * 10 + (c.toNat - 48)) r < 18446744073709551616 := hb
    have hge := digN_ge r (a * 10 + (c.toNat - 48))
    have ih := parseM_dig r (a * 10 + (c.toNat - 48)) h.2 hb'
    unfold parseUintM
    rw [if_pos hc, if_neg (by omega), if_neg (by omega)]
    exact ih
theorem parseB_dec (u : Nat) (h : U64 u) : parseUintB 64 (decDigits u) = .ok u := by
  unfold parseUintB
  rw [if_neg (dec_ne u), parseM_dig _ 0 (dec_dig u).2 (by rw [(dec_dig u).1]; exact h), (dec_dig u).1]
theorem parseM_lt : ∀ (l : List UInt8) (a u : Nat), a < 18446744073709551616 → parseUintM (2 ^ 64 - 1) a l = .ok u → u < 18446744073709551616
  | [], a, u, ha, h => by
    simp only [parseUintM, NumEnd.ok.injEq] at h
    omega
  | c :: r, a, u, ha, h => by
    unfold parseUintM at h
    split at h
    · split at h
      · cases h
      · split at h
        · cases h
        · exact parseM_lt r _ u (by omega) h
    · cases h
theorem parseB_lt {l : List UInt8} {u : Nat} (h : parseUintB 64 l = .ok u) : U64 u := by
  unfold parseUintB at h
  split at h
  · cases h
  · exact parseM_lt l 0 u (by omega) h
/-! ### A text cut at a byte -/
theorem idx_one (c : UInt8) : ∀ s : List UInt8, (index s [c] = -1 ∧ c ∉ s) ∨ ∃ a r, s = a ++ c :: r ∧ c ∉ a ∧ index s [c] = (a.length : Int)
  | [] => .inl ⟨rfl, by simp⟩
  | b :: l => by
    by_cases h : b = c
    · subst h
      exact .inr ⟨[], l, rfl, by simp, by simp [index, List.isPrefixOf]⟩
    · have hp : List.isPrefixOf [c] (b :: l) = false := by simp [List.isPrefixOf]; exact fun e => h e.symm
      rcases idx_one c l with ⟨h1, h2⟩ | ⟨a, r, rfl, h2, h3⟩
      · refine .inl ⟨by simp [index, hp, h1], ?_⟩
        intro hm
        rcases List.mem_cons.1 hm with e | e
        · exact h e.symm
        · exact h2 e
      · refine .inr ⟨b :: a, r, rfl, ?_, ?_⟩
        · intro hm
          rcases List.mem_cons.1 hm with e | e
          · exact h e.symm
          · exact h2 e
        · have : ((a.length : Int) == -1) = false := by rw [beq_eq_false_iff_ne]; omega
          simp [index, hp, h3, this]
theorem cut_one_no {c : UInt8} {s : List UInt8} (h : c ∉ s) : cut s [c] = (s, [], false) := by
  rcases idx_one c s with ⟨h1, _⟩ | ⟨a, r, rfl, _, _⟩
  · unfold cut; rw [if_neg (by omega)]
  · exact absurd (by simp) h
theorem cut_one_yes {c : UInt8} {a r : List UInt8} (h : c ∉ a) : cut (a ++ c :: r) [c] = (a, r, true) := by
  rcases idx_one c (a ++ c :: r) with ⟨_, h2⟩ | ⟨a', r', e, h2, h3⟩
  · exact absurd (by simp) h2
  · have ha : splitC c (a ++ c :: r) = a :: splitC c r := by
      obtain ⟨x, q, e1, e2⟩ := split_pre c a (c :: r) h
      rw [splitC, if_pos rfl] at e1
      simp only [List.cons.injEq] at e1
      obtain ⟨rfl, rfl⟩ := e1
      rw [e2]; simp
    have ha' : splitC c (a' ++ c :: r') = a' :: splitC c r' := by
      obtain ⟨x, q, e1, e2⟩ := split_pre c a' (c :: r') h2
      rw [splitC, if_pos rfl] at e1
      simp only [List.cons.injEq] at e1
      obtain ⟨rfl, rfl⟩ := e1
      rw [e2]; simp
    have hh := ha
    rw [e, ha'] at hh
    simp only [List.cons.injEq] at hh
    obtain ⟨rfl, _⟩ := hh
    unfold cut
    rw [h3, if_pos (by omega)]
    simp
theorem splitC_hit {c : UInt8} {a r : List UInt8} (h : c ∉ a) : splitC c (a ++ c :: r) = a :: splitC c r := by
  obtain ⟨x, q, e1, e2⟩ := split_pre c a (c :: r) h
  rw [splitC, if_pos rfl] at e1
  simp only [List.cons.injEq] at e1
  obtain ⟨rfl, rfl⟩ := e1
  rw [e2]; simp
theorem ba_of (s : ByteArray) (l : List UInt8) (h : s.data.toList = l) : s = ⟨l.toArray⟩ := by
  subst h; rcases s with ⟨⟨l⟩⟩; rfl
theorem split_words (c : UInt8) : ∀ (n : Nat) (s : ByteArray), s.size ≤ n → (splitB ⟨#[c]⟩ 0 (countB s ⟨#[c]⟩) s).map (·.data.toList) = splitC c s.data.toList := by
  intro n
  induction n with
  | zero =>
    intro s hs
    have h0 : s.data.toList = [] := List.eq_nil_of_length_eq_zero (by rw [Array.length_toList]; exact Nat.le_zero.1 hs)
    have hm : indexB s ⟨#[c]⟩ = -1 := by show index s.data.toList [c] = -1; rw [h0]; rfl
    rw [countB_miss _ _ hm, splitB_zero, h0]
    simp [splitC, h0]
  | succ n ih =>
    intro s hs
    rcases idx_one c s.data.toList with ⟨h1, h2⟩ | ⟨a, r, e, h2, h3⟩
    · have hm : indexB s ⟨#[c]⟩ = -1 := h1
      rw [countB_miss _ _ hm, splitB_zero, split_word c _ h2]
      rfl
    · have hm : indexB s ⟨#[c]⟩ = (a.length : Int) := h3
      have hl : s.size = a.length + 1 + r.length := by
        have : s.data.toList.length = s.size := by simp
        rw [← this, e]; simp; omega
      rw [countB_hit s ⟨#[c]⟩ a.length (Nat.le_refl 1) hm, Nat.add_comm 1, splitB_hit _ _ _ _ _ hm, List.map_cons, e, splitC_hit h2]
      have hs1 : (⟨#[c]⟩ : ByteArray).size = 1 := rfl
      have hx : (s.extract (a.length + 1) s.size).data.toList = r := by
        rw [ByteArray.data_extract, Array.toList_extract, List.extract_eq_take_drop, e]
        have hd : (a ++ c :: r).drop (a.length + 1) = r := by
          rw [show a ++ c :: r = (a ++ [c]) ++ r by simp, List.drop_append_of_le_length (by simp)]
          simp
        rw [hd, hl]
        exact List.take_of_length_le (by omega)
      have ih2 := ih (s.extract (a.length + 1) s.size) (by
        have : (s.extract (a.length + 1) s.size).data.toList.length = (s.extract (a.length + 1) s.size).size := by simp
        rw [← this, hx]; omega)
      rw [hx] at ih2
      rw [hs1, ih2]
      congr 1
      rw [ByteArray.data_extract, Array.toList_extract, List.extract_eq_take_drop, e]
      simp
/-! ### What a step of a reader must say -/
/-- words ws, ok: x was read; then words ws', ok' -/
structure Rds {α : Type} (enc : α → List Wd) (val : α → Prop) (ws : List Wd) (ok : Bool) (x : α) (ws' : List Wd) (ok' : Bool) : Prop where
  sound : ok' = true → ok = true ∧ ws = enc x ++ ws' ∧ val x
  full : ok = true → ∀ y r, val y → ws = enc y ++ r → ok' = true ∧ x = y ∧ ws' = r
theorem Rds.seq {α β : Type} {encA : α → List Wd} {valA : α → Prop} {encB : β → List Wd} {valB : β → Prop} {ws ws1 ws2 : List Wd} {ok ok1 ok2 : Bool} {x : α} {y : β}
    (h : Rds encA valA ws ok x ws1 ok1) (h' : Rds encB valB ws1 ok1 y ws2 ok2) : Rds (fun p : α × β => encA p.1 ++ encB p.2) (fun p => valA p.1 ∧ valB p.2) ws ok (x, y) ws2 ok2 := by
  refine ⟨fun h2 => ?_, fun h0 p r hv e => ?_⟩
  · obtain ⟨h1, e1, v1⟩ := h'.sound h2
    obtain ⟨h0, e0, v0⟩ := h.sound h1
    exact ⟨h0, by rw [e0, e1]; simp, v0, v1⟩
  · obtain ⟨h1, e1, r1⟩ := h.full h0 p.1 (encB p.2 ++ r) hv.1 (by rw [e]; simp)
    obtain ⟨h2, e2, r2⟩ := h'.full h1 p.2 r hv.2 r1
    exact ⟨h2, by rw [e1, e2], r2⟩
theorem Rds.map {α β : Type} {enc : α → List Wd} {val : α → Prop} {enc' : β → List Wd} {val' : β → Prop} {ws ws' : List Wd} {ok ok' : Bool} {x : α} (h : Rds enc val ws ok x ws' ok') (f : α → β) (g : β → α) (hfg : ∀ y, f (g y) = y)
    (he : ∀ x, enc' (f x) = enc x) (hv : ∀ x, val' (f x) ↔ val x) : Rds enc' val' ws ok (f x) ws' ok' := by
  refine ⟨fun h2 => ?_, fun h0 p r hv' e => ?_⟩
  · obtain ⟨h0, e0, v0⟩ := h.sound h2
    exact ⟨h0, by rw [he]; exact e0, (hv x).2 v0⟩
  · obtain ⟨h1, e1, r1⟩ := h.full h0 (g p) r ((hv _).1 (by rw [hfg]; exact hv')) (by rw [← he, hfg]; exact e)
    exact ⟨h1, by rw [e1, hfg], r1⟩
/-- a word as a thing -/
structure One {α : Type} (e : α → Wd) (val : α → Prop) (w : Wd) (ok : Bool) (x : α) (ok' : Bool) : Prop where
  sound : ok' = true → ok = true ∧ w = e x ∧ val x
  full : ok = true → ∀ y, val y → w = e y → ok' = true ∧ x = y
def nextW : List Wd → Wd
  | [] => []
  | w :: _ => w
def nextOk (ws : List Wd) (ok : Bool) : Bool := if ws = [] then false else ok
theorem One.rds {α : Type} {e : α → Wd} {val : α → Prop} {ws : List Wd} {ok : Bool} {x : α} {ok' : Bool} (h : One e val (nextW ws) (nextOk ws ok) x ok') : Rds (fun x => [e x]) val ws ok x ws.tail ok' := by
  cases ws with
  | nil => exact ⟨fun h1 => absurd (h.sound h1).1 (by simp [nextOk]), fun _ y r _ e => by simp at e⟩
  | cons w r =>
    have hn : nextOk (w :: r) ok = ok := by simp [nextOk]
    rw [hn] at h
    refine ⟨fun h1 => ?_, fun h0 y q hv e => ?_⟩
    · obtain ⟨h0, e0, v0⟩ := h.sound h1
      exact ⟨h0, by rw [← e0]; rfl, v0⟩
    · simp only [List.singleton_append, List.cons.injEq] at e
      obtain ⟨h1, e1⟩ := h.full h0 y hv e.1
      exact ⟨h1, e1, e.2⟩
def stopW (en : Wd) (ws : List Wd) : Prop := ws = [] ∨ ws.head? = some en
/-- things, as long as there are words, and none of them is the end -/
structure Mny {α : Type} (e : α → Wd) (val : α → Prop) (en : Wd) (ws : List Wd) (ok : Bool) (xs : List α) (ws' : List Wd) (ok' : Bool) : Prop where
  sound : ok' = true → ok = true ∧ ws = xs.map e ++ ws' ∧ (∀ x ∈ xs, val x)
  full : ok = true → ∀ ys r, (∀ y ∈ ys, val y ∧ e y ≠ en) → stopW en r → ws = ys.map e ++ r → ∃ zs, ys = xs ++ zs ∧ ok' = true ∧ ws' = zs.map e ++ r
theorem Mny.start {α : Type} {e : α → Wd} {val : α → Prop} {en : Wd} {ws : List Wd} {ok : Bool} : Mny e val en ws ok [] ws ok :=
  ⟨fun h => ⟨h, rfl, by simp⟩, fun h ys r hy hr e => ⟨ys, rfl, h, e⟩⟩
theorem Mny.next {α : Type} {e : α → Wd} {val : α → Prop} {en : Wd} {ws ws1 : List Wd} {ok ok1 ok2 : Bool} {xs : List α} {x : α} (h : Mny e val en ws ok xs ws1 ok1) (hne : ws1 ≠ []) (hen : ws1.head? ≠ some en) (h' : Rds (fun x => [e x]) val ws1 ok1 x ws1.tail ok2) : Mny e val en ws ok (xs ++ [x]) ws1.tail ok2 := by
  refine ⟨fun h2 => ?_, fun h0 ys r hy hr e' => ?_⟩
  · obtain ⟨h1, e1, v1⟩ := h'.sound h2
    obtain ⟨h0, e0, v0⟩ := h.sound h1
    refine ⟨h0, ?_, ?_⟩
    · rw [e0]; conv => lhs; rw [e1]
      simp
    · intro y hm
      rcases List.mem_append.1 hm with hm | hm
      · exact v0 y hm
      · rw [List.mem_singleton.1 hm]; exact v1
  · obtain ⟨zs, e1, h1, e2⟩ := h.full h0 ys r hy hr e'
    cases zs with
    | nil =>
      simp only [List.map_nil, List.nil_append] at e2
      subst e2
      rcases hr with hr | hr
      · exact absurd hr hne
      · exact absurd hr hen
    | cons z zs =>
      obtain ⟨h2, e3, e4⟩ := h'.full h1 z (zs.map e ++ r) (hy z (by rw [e1]; simp)).1 (by rw [e2]; simp)
      subst e3
      exact ⟨zs, by rw [e1]; simp, h2, e4⟩
/-- at the end -/
theorem Mny.stop {α : Type} {e : α → Wd} {val : α → Prop} {en : Wd} {ws ws' : List Wd} {ok ok' : Bool} {xs : List α} (h : Mny e val en ws ok xs ws' ok') (hs : ok' = true → stopW en ws') (h0 : ok = true) {ys : List α} {r : List Wd} (hy : ∀ y ∈ ys, val y ∧ e y ≠ en) (hr : stopW en r) (e' : ws = ys.map e ++ r) :
    ok' = true ∧ xs = ys ∧ ws' = r := by
  obtain ⟨zs, e1, h1, e2⟩ := h.full h0 ys r hy hr e'
  cases zs with
  | nil => exact ⟨h1, by simpa using e1.symm, by simpa using e2⟩
  | cons z zs =>
    exfalso
    rcases hs h1 with hs | hs
    · rw [hs] at e2; simp at e2
    · rw [e2] at hs
      simp only [List.map_cons, List.cons_append, List.head?_cons, Option.some.injEq] at hs
      exact (hy z (by rw [e1]; simp)).2 hs
end Go.Proofs.YtchgfabgighbfaaGreatDoor.ScrR
