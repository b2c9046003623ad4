/- Scripts, plainly: a line's words tell the line; how a text is shown, how it is parsed. -/
import Derived.Test.YtchgfabgighbfaaGreatDoorScrM
namespace Go.Proofs.YtchgfabgighbfaaGreatDoor.ScrP
set_option linter.unusedVariables false
open Go.Lib TxtM ScrM

theorem W_ne : [wBegin, wPut, wScore, wWhy, wAlerts, wAck, wStats, wSnap, wStop, wCrash, wOpen].Pairwise (· ≠ ·) := by decide
theorem nums_inj {a b : Cf} (h : a.nums = b.nums) : a = b := by
  obtain ⟨⟩ := a
  obtain ⟨⟩ := b
  simp only [Cf.nums, List.cons.injEq, and_true] at h
  simp only [Cf.mk.injEq]
  exact h
/-- the words of right lines of one kind -/
theorem words_conf (c : Cf) : lineW (onlyCf c) = wBegin :: c.nums.map itoa := rfl
theorem words_stop (n : Int) : lineW (onlyN n) = [wStop, itoa n] := rfl
theorem words_crash (k : List (Int × Int)) : lineW (onlyKept k) = wCrash :: k.map keptW := rfl
theorem words_open : lineW (ln0 5) = [wOpen] := rfl
theorem words_ask (a : Ak) (d : List Nat) : lineW (onlyAk a d) = askW a d := rfl
/-- which kind of ask: by its first word -/
theorem ask_head (a : Ak) (d : List Nat) (h : 1 ≤ a.kind ∧ a.kind ≤ 7) : (a.kind = 1 ∧ askW a d = wPut :: itoa a.id :: (a.xs.map itoa ++ ([47] :: d.map decDigits))) ∨ (a.kind = 2 ∧ askW a d = wScore :: a.xs.map itoa) ∨ (a.kind = 7 ∧ askW a d = wWhy :: a.xs.map itoa) ∨
    (a.kind = 3 ∧ askW a d = [wAlerts, itoa a.n, itoa a.m]) ∨ (a.kind = 4 ∧ askW a d = [wAck, itoa a.n]) ∨ (a.kind = 5 ∧ askW a d = [wStats]) ∨ (a.kind = 6 ∧ askW a d = [wSnap]) := by
  unfold askW
  have : a.kind = 1 ∨ a.kind = 2 ∨ a.kind = 3 ∨ a.kind = 4 ∨ a.kind = 5 ∨ a.kind = 6 ∨ a.kind = 7 := by omega
  rcases this with h | h | h | h | h | h | h <;> rw [h] <;> simp
theorem ask_tail (a : Ak) (d : List Nat) (h : 1 ≤ a.kind ∧ a.kind ≤ 7) : ∃ w r, askW a d = w :: r ∧ w ∈ [wPut, wScore, wWhy, wAlerts, wAck, wStats, wSnap] := by
  rcases ask_head a d h with ⟨_, e⟩ | ⟨_, e⟩ | ⟨_, e⟩ | ⟨_, e⟩ | ⟨_, e⟩ | ⟨_, e⟩ | ⟨_, e⟩ <;> exact ⟨_, _, e, by simp⟩
theorem take_slash : ∀ (l m : List Int) (p q : List Wd), l.map itoa ++ ([47] :: p) = m.map itoa ++ ([47] :: q) → l = m ∧ p = q
  | [], [], p, q, h => ⟨rfl, by simpa using h⟩
  | [], b :: m, p, q, h => by
    simp only [List.map_nil, List.nil_append, List.map_cons, List.cons_append, List.cons.injEq] at h
    have : (47 : UInt8) ∈ itoa b := by rw [← h.1]; simp
    exact absurd this (itoa_no b (by decide) (by decide))
  | a :: l, [], p, q, h => by
    simp only [List.map_nil, List.nil_append, List.map_cons, List.cons_append, List.cons.injEq] at h
    have : (47 : UInt8) ∈ itoa a := by rw [h.1]; simp
    exact absurd this (itoa_no a (by decide) (by decide))
  | a :: l, b :: m, p, q, h => by
    simp only [List.map_cons, List.cons_append, List.cons.injEq] at h
    obtain ⟨h1, h2⟩ := take_slash l m p q h.2
    exact ⟨by rw [itoa_inj h.1, h1], h2⟩
theorem ask_inj {a b : Ak} {d e : List Nat} (ha : askOk a) (hb : askOk b) (hd : a.kind = 1 ∨ d = []) (he : b.kind = 1 ∨ e = []) (h : askW a d = askW b e) : a = b ∧ d = e := by
  obtain ⟨ka, _, _, _, _, _, a1, a2, a3, a4⟩ := ha
  obtain ⟨kb, _, _, _, _, _, b1, b2, b3, b4⟩ := hb
  have hk : ∀ w v : Wd, ∀ r s : List Wd, w :: r = v :: s → w = v ∧ r = s := fun w v r s h => by simpa using h
  obtain ⟨ak, ai, ax, an, am⟩ := a
  obtain ⟨bk, bi, bx, bn, bm⟩ := b
  dsimp only at *
  rcases ask_head ⟨ak, ai, ax, an, am⟩ d ka with ⟨e1, f1⟩ | ⟨e1, f1⟩ | ⟨e1, f1⟩ | ⟨e1, f1⟩ | ⟨e1, f1⟩ | ⟨e1, f1⟩ | ⟨e1, f1⟩ <;>
  rcases ask_head ⟨bk, bi, bx, bn, bm⟩ e kb with ⟨e2, f2⟩ | ⟨e2, f2⟩ | ⟨e2, f2⟩ | ⟨e2, f2⟩ | ⟨e2, f2⟩ | ⟨e2, f2⟩ | ⟨e2, f2⟩ <;>
  rw [f1, f2] at h <;> dsimp only at e1 e2 <;> subst e1 e2 <;> first
    | (obtain ⟨h1, h2⟩ := hk _ _ _ _ h; exact absurd h1 (by decide))
    | skip
  · simp only [List.cons.injEq, true_and] at h
    obtain ⟨h1, h2⟩ := take_slash _ _ _ _ h.2
    have hd' := map_inj (fun u v h => dec_inj h) h2
    have := itoa_inj h.1
    simp at a3 a4 b3 b4
    simp_all
  · simp only [List.cons.injEq, true_and] at h
    have := map_inj (fun u v h => itoa_inj h) h
    simp at a1 a2 a3 a4 b1 b2 b3 b4 hd he
    simp_all
  · simp only [List.cons.injEq, true_and] at h
    have := map_inj (fun u v h => itoa_inj h) h
    simp at a1 a2 a3 a4 b1 b2 b3 b4 hd he
    simp_all
  · simp only [List.cons.injEq, true_and, and_true] at h
    have h1 := itoa_inj h.1
    have h2 := itoa_inj h.2
    simp at a1 a2 a3 a4 b1 b2 b3 b4 hd he
    simp_all
  · simp only [List.cons.injEq, true_and, and_true] at h
    have h1 := itoa_inj h
    simp at a1 a2 a3 a4 b1 b2 b3 b4 hd he
    simp_all
  · simp at a1 a2 a3 a4 b1 b2 b3 b4 hd he
    simp_all
  · simp at a1 a2 a3 a4 b1 b2 b3 b4 hd he
    simp_all
theorem line_inj {l m : Ln} (hl : Right l) (hm : Right m) (h : lineW l = lineW m) : l = m := by
  have hk : ∀ w v : Wd, ∀ r s : List Wd, w :: r = v :: s → w = v ∧ r = s := fun w v r s h => by simpa using h
  have hn0 : ∀ w ∈ [wPut, wScore, wWhy, wAlerts, wAck, wStats, wSnap], ∀ v ∈ [wBegin, wStop, wCrash, wOpen], w ≠ v := by decide
  have hn : ∀ w v : Wd, w ∈ [wPut, wScore, wWhy, wAlerts, wAck, wStats, wSnap] → v ∈ [wBegin, wStop, wCrash, wOpen] → w ≠ v := fun w v hw hv => hn0 w hw v hv
  cases hl with
  | conf c hc =>
    rw [words_conf] at h
    cases hm with
    | conf c' hc' =>
      rw [words_conf] at h
      rw [nums_inj (map_inj (fun u v h => itoa_inj h) (hk _ _ _ _ h).2)]
    | ask a d ha _ _ _ =>
      obtain ⟨w, r, e, hw⟩ := ask_tail a d ha.1
      rw [words_ask, e] at h
      exact absurd (hk _ _ _ _ h).1.symm (hn _ _ hw (by simp))
    | stop n _ _ => exact absurd (hk _ _ _ _ h).1 (by decide)
    | crash k _ _ => exact absurd (hk _ _ _ _ h).1 (by decide)
    | opens => exact absurd (hk _ _ _ _ h).1 (by decide)
  | ask a d ha h2 h3 h4 =>
    rw [words_ask] at h
    cases hm with
    | ask b e hb g2 g3 g4 =>
      rw [words_ask] at h
      obtain ⟨rfl, rfl⟩ := ask_inj ha hb h3 g3 h
      rfl
    | conf c _ =>
      obtain ⟨w, r, e, hw⟩ := ask_tail a d ha.1
      rw [words_conf, e] at h
      exact absurd (hk _ _ _ _ h).1 (hn _ _ hw (by simp))
    | stop n _ _ =>
      obtain ⟨w, r, e, hw⟩ := ask_tail a d ha.1
      rw [words_stop, e] at h
      exact absurd (hk _ _ _ _ h).1 (hn _ _ hw (by simp))
    | crash k _ _ =>
      obtain ⟨w, r, e, hw⟩ := ask_tail a d ha.1
      rw [words_crash, e] at h
      exact absurd (hk _ _ _ _ h).1 (hn _ _ hw (by simp))
    | opens =>
      obtain ⟨w, r, e, hw⟩ := ask_tail a d ha.1
      rw [words_open, e] at h
      exact absurd (hk _ _ _ _ h).1 (hn _ _ hw (by simp))
  | stop n h1 h2 =>
    rw [words_stop] at h
    cases hm with
    | stop m _ _ =>
      rw [words_stop] at h
      simp only [List.cons.injEq, true_and, and_true] at h
      rw [itoa_inj h]
    | ask a d ha _ _ _ =>
      obtain ⟨w, r, e, hw⟩ := ask_tail a d ha.1
      rw [words_ask, e] at h
      exact absurd (hk _ _ _ _ h).1.symm (hn _ _ hw (by simp))
    | conf c _ => exact absurd (hk _ _ _ _ h).1 (by decide)
    | crash k _ _ => exact absurd (hk _ _ _ _ h).1 (by decide)
    | opens => exact absurd (hk _ _ _ _ h).1 (by decide)
  | crash k h1 h2 =>
    rw [words_crash] at h
    cases hm with
    | crash m _ _ =>
      rw [words_crash] at h
      rw [map_inj (fun u v h => keptW_inj u v h) (hk _ _ _ _ h).2]
    | ask a d ha _ _ _ =>
      obtain ⟨w, r, e, hw⟩ := ask_tail a d ha.1
      rw [words_ask, e] at h
      exact absurd (hk _ _ _ _ h).1.symm (hn _ _ hw (by simp))
    | conf c _ => exact absurd (hk _ _ _ _ h).1 (by decide)
    | stop n _ _ => exact absurd (hk _ _ _ _ h).1 (by decide)
    | opens => exact absurd (hk _ _ _ _ h).1 (by decide)
  | opens =>
    rw [words_open] at h
    cases hm with
    | opens => rfl
    | ask a d ha _ _ _ =>
      obtain ⟨w, r, e, hw⟩ := ask_tail a d ha.1
      rw [words_ask, e] at h
      exact absurd (hk _ _ _ _ h).1.symm (hn _ _ hw (by simp))
    | conf c _ => exact absurd (hk _ _ _ _ h).1 (by decide)
    | stop n _ _ => exact absurd (hk _ _ _ _ h).1 (by decide)
    | crash k _ _ => exact absurd (hk _ _ _ _ h).1 (by decide)
open Classical in
/-- the right line of these words -/
noncomputable def readW (ws : List Wd) : Option Ln := if h : ∃ l, Right l ∧ lineW l = ws then some (Classical.choose h) else none
theorem read_line {l : Ln} (h : Right l) : readW (lineW l) = some l := by
  have hx : ∃ l', Right l' ∧ lineW l' = lineW l := ⟨l, h, rfl⟩
  unfold readW
  rw [dif_pos hx]
  exact congrArg some (line_inj (Classical.choose_spec hx).1 h (Classical.choose_spec hx).2)
theorem read_sound {ws : List Wd} {l : Ln} (h : readW ws = some l) : Right l ∧ lineW l = ws := by
  unfold readW at h
  split at h
  · rename_i hx
    obtain rfl := Option.some.inj h
    exact Classical.choose_spec hx
  · cases h
theorem read_none {ws : List Wd} (h : ∀ l, Right l → lineW l ≠ ws) : readW ws = none := by
  unfold readW
  rw [dif_neg]
  rintro ⟨l, h1, h2⟩
  exact h l h1 h2
/-- the lines of pieces: the last piece is what stands behind the last line's end -/
noncomputable def parseL : List Wd → List Ln → List Ln × Int × Int
  | [], out => (out, out.length, 0)
  | [p], out => if p = [] then (out, out.length, 0) else if out.length = 512 then ([], 512, 3) else ([], out.length, 350)
  | p :: q :: r, out => if out.length = 512 then ([], 512, 3) else match readW (splitC 32 p) with
    | none => ([], out.length, 350)
    | some l => parseL (q :: r) (out ++ [l])
noncomputable def parseR (s : List UInt8) : List Ln × Int × Int := if 262144 < s.length then ([], 0, 3) else parseL (splitC 10 s) []
def textAll (l : List Ln) : List UInt8 := l.flatMap lineT
open Classical in
noncomputable def showR (l : List Ln) : List UInt8 × Int :=
  if 512 < l.length then ([], 3) else if ∀ x ∈ l, Right x then (if 262144 < (textAll l).length then ([], 3) else (textAll l, 0)) else ([], 350)
theorem line_end (l : Ln) (s : List UInt8) : splitC 10 (lineT l ++ s) = joinW (lineW l) :: splitC 10 s := by
  have h : (10 : UInt8) ∉ joinW (lineW l) := by
    intro hm
    have hw := word_no l (c := 10) (.inr rfl)
    cases hl : lineW l with
    | nil => exact absurd hl (lineW_ne l)
    | cons w r =>
      rw [hl] at hm hw
      rcases List.mem_append.1 hm with h | h
      · exact hw w (by simp) h
      · obtain ⟨x, hx, h⟩ := List.mem_flatMap.1 h
        rcases List.mem_cons.1 h with h | h
        · exact absurd h (by decide)
        · exact hw x (by simp [hx]) h
  obtain ⟨a, r, h1, h2⟩ := split_pre 10 (joinW (lineW l)) (10 :: s) h
  unfold lineT
  rw [List.append_assoc, List.cons_append, List.nil_append, h2]
  rw [splitC, if_pos rfl] at h1
  simp only [List.cons.injEq] at h1
  obtain ⟨rfl, rfl⟩ := h1
  simp
/-- lines behind one another, and what is behind them -/
theorem parse_all (s : List UInt8) : ∀ (l out : List Ln), (∀ x ∈ l, Right x) → out.length + l.length ≤ 512 → parseL (splitC 10 (textAll l ++ s)) out = parseL (splitC 10 s) (out ++ l)
  | [], out, _, _ => by simp [textAll]
  | x :: l, out, h, hl => by
    rw [List.length_cons] at hl
    have e : textAll (x :: l) ++ s = lineT x ++ (textAll l ++ s) := by simp [textAll]
    have ih := parse_all s l (out ++ [x]) (fun y hy => h y (by simp [hy])) (by simp; omega)
    rw [e, line_end]
    cases hs : splitC 10 (textAll l ++ s) with
    | nil => exact absurd hs (split_ne 10 _)
    | cons p r =>
      rw [hs] at ih
      rw [parseL, if_neg (by omega), split_line, read_line (h x (by simp))]
      dsimp only
      rw [ih]
      simp
theorem parse_show {l : List Ln} {t : List UInt8} (h : showR l = (t, 0)) : parseR t = (l, (l.length : Int), 0) := by
  unfold showR at h
  split at h
  · injection h with _ h; exact absurd h (by decide)
  · rename_i h1
    split at h
    · rename_i h2
      split at h
      · injection h with _ h; exact absurd h (by decide)
      · rename_i h3
        injection h with h _
        subst h
        unfold parseR
        rw [if_neg h3]
        have := parse_all [] l [] h2 (by simp; omega)
        rw [List.append_nil] at this
        rw [this, List.nil_append]
        simp [splitC, parseL]
    · injection h with _ h; exact absurd h (by decide)
theorem join10 : ∀ s : List UInt8, ∀ p r, splitC 10 s = p :: r → s = p ++ r.flatMap (10 :: ·)
  | [], p, r, h => by simp [splitC] at h; obtain ⟨rfl, rfl⟩ := h; rfl
  | x :: s, p, r, h => by
    cases hs : splitC 10 s with
    | nil => exact absurd hs (split_ne 10 s)
    | cons a q =>
      have ih := join10 s a q hs
      rw [splitC] at h
      split at h
      · rename_i hx
        simp only [List.cons.injEq] at h
        obtain ⟨rfl, rfl⟩ := h
        rw [hs, hx, List.nil_append, List.flatMap_cons, List.cons_append, ← ih]
      · rw [hs] at h
        simp only [List.cons.injEq] at h
        obtain ⟨rfl, rfl⟩ := h
        rw [List.cons_append, ← ih]
theorem line_text {p : Wd} {l : Ln} (h : readW (splitC 32 p) = some l) : lineT l = p ++ [10] := by
  unfold lineT
  rw [(read_sound h).2, join_split]
/-- what is parsed is shown as it was -/
theorem parseL_sound : ∀ (ps : List Wd) (p : Wd) (out ls : List Ln) (n : Int), (∀ x ∈ out, Right x) → out.length ≤ 512 → parseL (p :: ps) out = (ls, n, 0) → n = ls.length ∧ ls.length ≤ 512 ∧ (∀ x ∈ ls, Right x) ∧ textAll out ++ (p ++ ps.flatMap (10 :: ·)) = textAll ls
  | [], p, out, ls, n, ho, hl, h => by
    rw [parseL] at h
    split at h
    · rename_i hp
      simp only [Prod.mk.injEq, and_true] at h
      obtain ⟨rfl, rfl⟩ := h
      exact ⟨rfl, hl, ho, by rw [hp]; simp⟩
    · split at h <;> simp at h
  | q :: ps, p, out, ls, n, ho, hl, h => by
    rw [parseL] at h
    split at h
    · simp at h
    · rename_i h5
      split at h
      · simp at h
      · rename_i l hr
        obtain ⟨h1, h2, h3, h4⟩ := parseL_sound ps q (out ++ [l]) ls n (fun x hx => by
          rcases List.mem_append.1 hx with hx | hx
          · exact ho x hx
          · rw [List.mem_singleton.1 hx]; exact (read_sound hr).1) (by simp; omega) h
        refine ⟨h1, h2, h3, ?_⟩
        rw [← h4]
        simp only [textAll, List.flatMap_append, List.flatMap_cons, List.flatMap_nil, List.append_nil, line_text hr]
        simp
theorem parse_sound {s : List UInt8} {ls : List Ln} {n : Int} (h : parseR s = (ls, n, 0)) : n = ls.length ∧ ls.length ≤ 512 ∧ (∀ x ∈ ls, Right x) ∧ textAll ls = s ∧ s.length ≤ 262144 := by
  unfold parseR at h
  split at h
  · simp at h
  · rename_i hl
    cases hs : splitC 10 s with
    | nil => exact absurd hs (split_ne 10 s)
    | cons p ps =>
      rw [hs] at h
      obtain ⟨h1, h2, h3, h4⟩ := parseL_sound ps p [] ls n (by simp) (by simp) h
      refine ⟨h1, h2, h3, ?_, by omega⟩
      rw [← h4, ← join10 s p ps hs]
      simp [textAll]
theorem show_parse {s : List UInt8} {ls : List Ln} {n : Int} (h : parseR s = (ls, n, 0)) : showR ls = (s, 0) := by
  obtain ⟨_, h2, h3, h4, h5⟩ := parse_sound h
  unfold showR
  rw [if_neg (by omega), if_pos h3, h4, if_neg (by omega)]
theorem parseL_count : ∀ (ps : List Wd) (p : Wd) (o ls : List Ln) (k f : Int), parseL (p :: ps) o = (ls, k, f) → (o.length : Int) ≤ k
  | [], p, o, ls, k, f, h => by
    rw [parseL] at h
    split at h
    · simp only [Prod.mk.injEq] at h; omega
    · split at h <;> simp only [Prod.mk.injEq] at h <;> omega
  | q :: ps, p, o, ls, k, f, h => by
    rw [parseL] at h
    split at h
    · simp only [Prod.mk.injEq] at h; omega
    · split at h
      · simp only [Prod.mk.injEq] at h; omega
      · have := parseL_count ps q _ ls k f h
        simp at this; omega
/-- the error's number and the count do not hang on what came before, but by its count -/
theorem parseL_more : ∀ (ps : List Wd) (p : Wd) (o l : List Ln) (ls : List Ln) (k f : Int), l.length + o.length < 512 → parseL (p :: ps) o = (ls, k, f) → (l.length : Int) + k < 512 →
    (f = 0 → parseL (p :: ps) (l ++ o) = (l ++ ls, l.length + k, 0)) ∧ (f ≠ 0 → parseL (p :: ps) (l ++ o) = ([], l.length + k, f))
  | [], p, o, l, ls, k, f, ho, h, hk => by
    rw [parseL] at h ⊢
    split at h
    · rename_i hp
      simp only [Prod.mk.injEq] at h
      obtain ⟨rfl, rfl, rfl⟩ := h
      exact ⟨fun _ => by rw [if_pos hp]; simp, fun h => absurd rfl h⟩
    · rename_i hp
      rw [if_neg (by omega)] at h
      simp only [Prod.mk.injEq] at h
      obtain ⟨rfl, rfl, rfl⟩ := h
      refine ⟨fun h => absurd h (by decide), fun _ => ?_⟩
      rw [if_neg hp, if_neg (by simp; omega)]
      simp
  | q :: ps, p, o, l, ls, k, f, ho, h, hk => by
    rw [parseL] at h ⊢
    rw [if_neg (by omega)] at h
    rw [if_neg (by simp; omega)]
    cases hr : readW (splitC 32 p) with
    | none =>
      rw [hr] at h
      simp only [Prod.mk.injEq] at h
      obtain ⟨rfl, rfl, rfl⟩ := h
      exact ⟨fun h => absurd h (by decide), fun _ => by simp⟩
    | some x =>
      rw [hr] at h
      dsimp only at h ⊢
      by_cases h5 : l.length + (o ++ [x]).length < 512
      · have := parseL_more ps q (o ++ [x]) l ls k f h5 h hk
        rw [← List.append_assoc] at this
        exact this
      · -- as many lines as may be: the count would be 512
        exfalso
        have hc := parseL_count ps q (o ++ [x]) ls k f h
        simp at h5 hc
        omega
theorem parse_parts {a b : List UInt8} {l m : List Ln} {n k f : Int} (ha : parseR a = (l, n, 0)) (hb : parseR b = (m, k, f)) (hk : n + k < 512) (hl : a.length + b.length ≤ 262144) (h3 : b.length ≤ 262144) :
    parseR (a ++ b) = (if f = 0 then l ++ m else [], n + k, f) := by
  obtain ⟨h1, h2, h3', h4, h5⟩ := parse_sound ha
  unfold parseR at hb ⊢
  rw [if_neg (by omega)] at hb
  rw [if_neg (by rw [List.length_append]; omega), ← h4, parse_all b l [] h3' (by simpa using h2), List.nil_append]
  cases hs : splitC 10 b with
  | nil => exact absurd hs (split_ne 10 b)
  | cons p ps =>
    rw [hs] at hb
    have hc := parseL_count ps p [] m k f hb
    simp at hc
    obtain ⟨g1, g2⟩ := parseL_more ps p [] l m k f (by simp; omega) hb (by omega)
    rw [List.append_nil] at g1 g2
    by_cases hf : f = 0
    · rw [g1 hf, if_pos hf, h1, hf]
    · rw [g2 hf, if_neg hf, h1]
end Go.Proofs.YtchgfabgighbfaaGreatDoor.ScrP
