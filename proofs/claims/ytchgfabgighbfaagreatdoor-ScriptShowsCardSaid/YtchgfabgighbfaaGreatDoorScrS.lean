/- Reading a line, plainly: what each kind's reading must say (printed by mkscrs.py). No program is in sight. -/
import Derived.Test.YtchgfabgighbfaaGreatDoorScrR
namespace Go.Proofs.YtchgfabgighbfaaGreatDoor.ScrS
set_option linter.unusedVariables false
open Go.Lib TxtM ScrM ScrP ScrR

def I2 (x : Int × Int) : Prop := I64 x.1 ∧ I64 x.2
def cfE (c : Cf) : List Wd := c.nums.map itoa
def cfV (c : Cf) : Prop := ∀ x ∈ c.nums, I64 x
def LineS (all : List Wd) (ok : Bool) (l : Ln) (ws' : List Wd) (ok' : Bool) : Prop :=
  (ok' = true → ws' = [] → ok = true ∧ lineW l = all ∧ (∀ x ∈ l.draws, x < 18446744073709551616) ∧ l.cf.c7 ≤ 9223372036854775807) ∧
  (ok = true → ∀ l', Right l' → lineW l' = all → ok' = true ∧ ws' = [] ∧ l = l')
theorem read_yes {all : List Wd} {l : Ln} {ws' : List Wd} {ok' : Bool} (h : LineS all true l ws' ok') (h1 : ok' = true) (h2 : ws' = []) (h3 : Right l) : readW all = some l := by
  rw [← (h.1 h1 h2).2.1]; exact read_line h3
theorem read_no {all : List Wd} {l : Ln} {ws' : List Wd} {ok' : Bool} (h : LineS all true l ws' ok') (hn : ¬ (ok' = true ∧ ws' = [] ∧ Right l)) : readW all = none :=
  read_none fun l' hr e => by
    obtain ⟨h1, h2, rfl⟩ := h.2 rfl l' hr e
    exact hn ⟨h1, h2, hr⟩
theorem hd {w v : Wd} {r s : List Wd} (h : w :: r = v :: s) : w = v ∧ r = s := by simpa using h
theorem few_64 {n : Int} (h : few n) : I64 n := by unfold few at h; unfold I64; omega
theorem ask_64 {a : Ak} (h : askOk a) : ∀ x ∈ a.xs, I64 x := fun x hx => by
  have := h.2.2.2.2.2.1 x hx; unfold I64; omega
theorem itoa_slash (n : Int) : itoa n ≠ [47] := fun h => by
  have : (47 : UInt8) ∈ itoa n := by rw [h]; simp
  exact absurd this (itoa_no n (by decide) (by decide))
theorem inv_1 {l : Ln} {ws : List Wd} (h : Right l) (e : lineW l = wPut :: ws) : ∃ a d, l = onlyAk a d ∧ askOk a ∧ (a.kind = 1 ∨ d = []) ∧ (∀ x ∈ d, x < 18446744073709551616) ∧ a.kind = 1 ∧ askW a d = wPut :: ws := by
  cases h with
  | conf c _ => exact absurd (hd e).1 (by decide)
  | stop n _ _ => exact absurd (hd e).1 (by decide)
  | crash k _ _ => exact absurd (hd e).1 (by decide)
  | opens => exact absurd (hd e).1 (by decide)
  | ask a d h1 h2 h3 h4 =>
    rw [words_ask] at e
    refine ⟨a, d, rfl, h1, h3, h4, ?_, e⟩
    rcases ask_head a d h1.1 with ⟨k, f⟩ | ⟨k, f⟩ | ⟨k, f⟩ | ⟨k, f⟩ | ⟨k, f⟩ | ⟨k, f⟩ | ⟨k, f⟩
    · exact k
    · rw [f] at e; exact absurd (hd e).1 (by decide)
    · rw [f] at e; exact absurd (hd e).1 (by decide)
    · rw [f] at e; exact absurd (hd e).1 (by decide)
    · rw [f] at e; exact absurd (hd e).1 (by decide)
    · rw [f] at e; exact absurd (hd e).1 (by decide)
    · rw [f] at e; exact absurd (hd e).1 (by decide)
theorem inv_2 {l : Ln} {ws : List Wd} (h : Right l) (e : lineW l = wScore :: ws) : ∃ a d, l = onlyAk a d ∧ askOk a ∧ (a.kind = 1 ∨ d = []) ∧ (∀ x ∈ d, x < 18446744073709551616) ∧ a.kind = 2 ∧ askW a d = wScore :: ws := by
  cases h with
  | conf c _ => exact absurd (hd e).1 (by decide)
  | stop n _ _ => exact absurd (hd e).1 (by decide)
  | crash k _ _ => exact absurd (hd e).1 (by decide)
  | opens => exact absurd (hd e).1 (by decide)
  | ask a d h1 h2 h3 h4 =>
    rw [words_ask] at e
    refine ⟨a, d, rfl, h1, h3, h4, ?_, e⟩
    rcases ask_head a d h1.1 with ⟨k, f⟩ | ⟨k, f⟩ | ⟨k, f⟩ | ⟨k, f⟩ | ⟨k, f⟩ | ⟨k, f⟩ | ⟨k, f⟩
    · rw [f] at e; exact absurd (hd e).1 (by decide)
    · exact k
    · rw [f] at e; exact absurd (hd e).1 (by decide)
    · rw [f] at e; exact absurd (hd e).1 (by decide)
    · rw [f] at e; exact absurd (hd e).1 (by decide)
    · rw [f] at e; exact absurd (hd e).1 (by decide)
    · rw [f] at e; exact absurd (hd e).1 (by decide)
theorem inv_7 {l : Ln} {ws : List Wd} (h : Right l) (e : lineW l = wWhy :: ws) : ∃ a d, l = onlyAk a d ∧ askOk a ∧ (a.kind = 1 ∨ d = []) ∧ (∀ x ∈ d, x < 18446744073709551616) ∧ a.kind = 7 ∧ askW a d = wWhy :: ws := by
  cases h with
  | conf c _ => exact absurd (hd e).1 (by decide)
  | stop n _ _ => exact absurd (hd e).1 (by decide)
  | crash k _ _ => exact absurd (hd e).1 (by decide)
  | opens => exact absurd (hd e).1 (by decide)
  | ask a d h1 h2 h3 h4 =>
    rw [words_ask] at e
    refine ⟨a, d, rfl, h1, h3, h4, ?_, e⟩
    rcases ask_head a d h1.1 with ⟨k, f⟩ | ⟨k, f⟩ | ⟨k, f⟩ | ⟨k, f⟩ | ⟨k, f⟩ | ⟨k, f⟩ | ⟨k, f⟩
    · rw [f] at e; exact absurd (hd e).1 (by decide)
    · rw [f] at e; exact absurd (hd e).1 (by decide)
    · exact k
    · rw [f] at e; exact absurd (hd e).1 (by decide)
    · rw [f] at e; exact absurd (hd e).1 (by decide)
    · rw [f] at e; exact absurd (hd e).1 (by decide)
    · rw [f] at e; exact absurd (hd e).1 (by decide)
theorem inv_3 {l : Ln} {ws : List Wd} (h : Right l) (e : lineW l = wAlerts :: ws) : ∃ a d, l = onlyAk a d ∧ askOk a ∧ (a.kind = 1 ∨ d = []) ∧ (∀ x ∈ d, x < 18446744073709551616) ∧ a.kind = 3 ∧ askW a d = wAlerts :: ws := by
  cases h with
  | conf c _ => exact absurd (hd e).1 (by decide)
  | stop n _ _ => exact absurd (hd e).1 (by decide)
  | crash k _ _ => exact absurd (hd e).1 (by decide)
  | opens => exact absurd (hd e).1 (by decide)
  | ask a d h1 h2 h3 h4 =>
    rw [words_ask] at e
    refine ⟨a, d, rfl, h1, h3, h4, ?_, e⟩
    rcases ask_head a d h1.1 with ⟨k, f⟩ | ⟨k, f⟩ | ⟨k, f⟩ | ⟨k, f⟩ | ⟨k, f⟩ | ⟨k, f⟩ | ⟨k, f⟩
    · rw [f] at e; exact absurd (hd e).1 (by decide)
    · rw [f] at e; exact absurd (hd e).1 (by decide)
    · rw [f] at e; exact absurd (hd e).1 (by decide)
    · exact k
    · rw [f] at e; exact absurd (hd e).1 (by decide)
    · rw [f] at e; exact absurd (hd e).1 (by decide)
    · rw [f] at e; exact absurd (hd e).1 (by decide)
theorem inv_4 {l : Ln} {ws : List Wd} (h : Right l) (e : lineW l = wAck :: ws) : ∃ a d, l = onlyAk a d ∧ askOk a ∧ (a.kind = 1 ∨ d = []) ∧ (∀ x ∈ d, x < 18446744073709551616) ∧ a.kind = 4 ∧ askW a d = wAck :: ws := by
  cases h with
  | conf c _ => exact absurd (hd e).1 (by decide)
  | stop n _ _ => exact absurd (hd e).1 (by decide)
  | crash k _ _ => exact absurd (hd e).1 (by decide)
  | opens => exact absurd (hd e).1 (by decide)
  | ask a d h1 h2 h3 h4 =>
    rw [words_ask] at e
    refine ⟨a, d, rfl, h1, h3, h4, ?_, e⟩
    rcases ask_head a d h1.1 with ⟨k, f⟩ | ⟨k, f⟩ | ⟨k, f⟩ | ⟨k, f⟩ | ⟨k, f⟩ | ⟨k, f⟩ | ⟨k, f⟩
    · rw [f] at e; exact absurd (hd e).1 (by decide)
    · rw [f] at e; exact absurd (hd e).1 (by decide)
    · rw [f] at e; exact absurd (hd e).1 (by decide)
    · rw [f] at e; exact absurd (hd e).1 (by decide)
    · exact k
    · rw [f] at e; exact absurd (hd e).1 (by decide)
    · rw [f] at e; exact absurd (hd e).1 (by decide)
theorem inv_5 {l : Ln} {ws : List Wd} (h : Right l) (e : lineW l = wStats :: ws) : ∃ a d, l = onlyAk a d ∧ askOk a ∧ (a.kind = 1 ∨ d = []) ∧ (∀ x ∈ d, x < 18446744073709551616) ∧ a.kind = 5 ∧ askW a d = wStats :: ws := by
  cases h with
  | conf c _ => exact absurd (hd e).1 (by decide)
  | stop n _ _ => exact absurd (hd e).1 (by decide)
  | crash k _ _ => exact absurd (hd e).1 (by decide)
  | opens => exact absurd (hd e).1 (by decide)
  | ask a d h1 h2 h3 h4 =>
    rw [words_ask] at e
    refine ⟨a, d, rfl, h1, h3, h4, ?_, e⟩
    rcases ask_head a d h1.1 with ⟨k, f⟩ | ⟨k, f⟩ | ⟨k, f⟩ | ⟨k, f⟩ | ⟨k, f⟩ | ⟨k, f⟩ | ⟨k, f⟩
    · rw [f] at e; exact absurd (hd e).1 (by decide)
    · rw [f] at e; exact absurd (hd e).1 (by decide)
    · rw [f] at e; exact absurd (hd e).1 (by decide)
    · rw [f] at e; exact absurd (hd e).1 (by decide)
    · rw [f] at e; exact absurd (hd e).1 (by decide)
    · exact k
    · rw [f] at e; exact absurd (hd e).1 (by decide)
theorem inv_6 {l : Ln} {ws : List Wd} (h : Right l) (e : lineW l = wSnap :: ws) : ∃ a d, l = onlyAk a d ∧ askOk a ∧ (a.kind = 1 ∨ d = []) ∧ (∀ x ∈ d, x < 18446744073709551616) ∧ a.kind = 6 ∧ askW a d = wSnap :: ws := by
  cases h with
  | conf c _ => exact absurd (hd e).1 (by decide)
  | stop n _ _ => exact absurd (hd e).1 (by decide)
  | crash k _ _ => exact absurd (hd e).1 (by decide)
  | opens => exact absurd (hd e).1 (by decide)
  | ask a d h1 h2 h3 h4 =>
    rw [words_ask] at e
    refine ⟨a, d, rfl, h1, h3, h4, ?_, e⟩
    rcases ask_head a d h1.1 with ⟨k, f⟩ | ⟨k, f⟩ | ⟨k, f⟩ | ⟨k, f⟩ | ⟨k, f⟩ | ⟨k, f⟩ | ⟨k, f⟩
    · rw [f] at e; exact absurd (hd e).1 (by decide)
    · rw [f] at e; exact absurd (hd e).1 (by decide)
    · rw [f] at e; exact absurd (hd e).1 (by decide)
    · rw [f] at e; exact absurd (hd e).1 (by decide)
    · rw [f] at e; exact absurd (hd e).1 (by decide)
    · rw [f] at e; exact absurd (hd e).1 (by decide)
    · exact k
theorem inv_conf {l : Ln} {ws : List Wd} (h : Right l) (e : lineW l = wBegin :: ws) : ∃ c, l = onlyCf c ∧ confOk c ∧ ws = cfE c := by
  cases h with
  | conf c h1 => exact ⟨c, rfl, h1, (hd e).2.symm⟩
  | stop n h1 h2 => exact absurd (hd e).1 (by decide)
  | crash k h1 h2 => exact absurd (hd e).1 (by decide)
  | opens => exact absurd (hd e).1 (by decide)
  | ask a d h1 h2 h3 h4 =>
    exfalso
    obtain ⟨w, r, e2, hm⟩ := ask_tail a d h1.1
    rw [words_ask, e2] at e
    rw [(hd e).1] at hm
    revert hm; decide
theorem inv_stop {l : Ln} {ws : List Wd} (h : Right l) (e : lineW l = wStop :: ws) : ∃ n, l = onlyN n ∧ I64 n ∧ ws = [itoa n] := by
  cases h with
  | conf c h1 => exact absurd (hd e).1 (by decide)
  | stop n h1 h2 => exact ⟨n, rfl, by unfold I64; omega, (hd e).2.symm⟩
  | crash k h1 h2 => exact absurd (hd e).1 (by decide)
  | opens => exact absurd (hd e).1 (by decide)
  | ask a d h1 h2 h3 h4 =>
    exfalso
    obtain ⟨w, r, e2, hm⟩ := ask_tail a d h1.1
    rw [words_ask, e2] at e
    rw [(hd e).1] at hm
    revert hm; decide
theorem inv_crash {l : Ln} {ws : List Wd} (h : Right l) (e : lineW l = wCrash :: ws) : ∃ k, l = onlyKept k ∧ keptOk k ∧ ws = k.map keptW := by
  cases h with
  | conf c h1 => exact absurd (hd e).1 (by decide)
  | stop n h1 h2 => exact absurd (hd e).1 (by decide)
  | crash k h1 h2 => exact ⟨k, rfl, h1, (hd e).2.symm⟩
  | opens => exact absurd (hd e).1 (by decide)
  | ask a d h1 h2 h3 h4 =>
    exfalso
    obtain ⟨w, r, e2, hm⟩ := ask_tail a d h1.1
    rw [words_ask, e2] at e
    rw [(hd e).1] at hm
    revert hm; decide
theorem inv_open {l : Ln} {ws : List Wd} (h : Right l) (e : lineW l = wOpen :: ws) : l = ln0 5 ∧ ws = [] := by
  cases h with
  | conf c h1 => exact absurd (hd e).1 (by decide)
  | stop n h1 h2 => exact absurd (hd e).1 (by decide)
  | crash k h1 h2 => exact absurd (hd e).1 (by decide)
  | opens => exact ⟨rfl, (hd e).2.symm⟩
  | ask a d h1 h2 h3 h4 =>
    exfalso
    obtain ⟨w, r, e2, hm⟩ := ask_tail a d h1.1
    rw [words_ask, e2] at e
    rw [(hd e).1] at hm
    revert hm; decide
theorem lineS_put {ws ws1 ws2 ws4 : List Wd} {ok ok1 ok2 ok3 ok4 : Bool} {id : Int} {xs : List Int} {ds : List Nat} (h1 : Rds (fun x => [itoa x]) I64 ws ok id ws1 ok1) (h2 : Mny itoa I64 [47] ws1 ok1 xs ws2 ok2) (hs2 : ok2 = true → stopW [47] ws2)
    (hok3 : ok3 = (decide (nextW ws2 = [47]) && nextOk ws2 ok2)) (h4 : Mny decDigits U64 [] ws2.tail ok3 ds ws4 ok4) (hs4 : ok4 = true → stopW [] ws4) : LineS (wPut :: ws) ok (onlyAk ⟨1, id, xs, 0, 0⟩ ds) ws4 ok4 := by
  refine ⟨fun g4 e4 => ?_, fun h0 l' hr e => ?_⟩
  · obtain ⟨g3, e3, v3⟩ := h4.sound g4
    rw [hok3, Bool.and_eq_true] at g3
    have n2 := of_decide_eq_true g3.1
    have g2 : ws2 ≠ [] ∧ ok2 = true := by
      unfold nextOk at g3
      by_cases hw : ws2 = []
      · rw [if_pos hw] at g3; exact absurd g3.2 (by decide)
      · rw [if_neg hw] at g3; exact ⟨hw, g3.2⟩
    obtain ⟨g1, e2, _⟩ := h2.sound g2.2
    obtain ⟨g0, e1, _⟩ := h1.sound g1
    have e5 : ws2 = [47] :: ws2.tail := by
      cases hw : ws2 with
      | nil => exact absurd hw g2.1
      | cons x r => rw [hw] at n2; simp only [nextW] at n2; rw [n2]; rfl
    refine ⟨g0, ?_, v3, by show (0 : Int) ≤ _; decide⟩
    rw [words_ask]
    unfold askW
    rw [if_pos rfl]
    dsimp only
    rw [e1, e2, e5, e3, e4]
    simp
  · obtain ⟨a, d, rfl, ha, hd', hu, hk, e⟩ := inv_1 hr e
    unfold askW at e
    rw [if_pos hk] at e
    have e := (hd e).2.symm
    obtain ⟨g1, i1, e1⟩ := h1.full h0 a.id (a.xs.map itoa ++ ([47] :: d.map decDigits)) (few_64 ha.2.2.1) (by rw [e]; rfl)
    obtain ⟨g2, i2, e2⟩ := h2.stop hs2 g1 (ys := a.xs) (r := [47] :: d.map decDigits) (fun y hy => ⟨ask_64 ha y hy, itoa_slash y⟩) (.inr rfl) e1
    have g3 : ok3 = true := by rw [hok3, e2, g2]; simp [nextW, nextOk]
    obtain ⟨g4, i4, e4⟩ := h4.stop hs4 g3 (ys := d) (r := []) (fun y hy => ⟨hu y hy, dec_ne y⟩) (.inl rfl) (by rw [e2]; simp)
    refine ⟨g4, e4, ?_⟩
    obtain ⟨k, i, x, n, m⟩ := a
    obtain ⟨_, _, _, _, _, _, _, _, q1, q2⟩ := ha
    dsimp only at hk i1 i2 q1 q2 ⊢
    subst hk i1 i2 i4
    have z1 : n = 0 := by rcases q1 with h | h | h <;> first | exact h | (exact absurd h (by decide))
    have z2 : m = 0 := by rcases q2 with h | h <;> first | exact h | (exact absurd h (by decide))
    rw [z1, z2]
theorem lineS_2 {ws ws2 : List Wd} {ok ok2 : Bool} {xs : List Int} (h2 : Mny itoa I64 [] ws ok xs ws2 ok2) (hs2 : ok2 = true → stopW [] ws2) : LineS (wScore :: ws) ok (onlyAk ⟨2, 0, xs, 0, 0⟩ []) ws2 ok2 := by
  refine ⟨fun g2 e4 => ?_, fun h0 l' hr e => ?_⟩
  · obtain ⟨g0, e2, _⟩ := h2.sound g2
    refine ⟨g0, ?_, by simp [onlyAk, ln0], by show (0 : Int) ≤ _; decide⟩
    rw [words_ask, e2, e4]
    simp [askW]
  · obtain ⟨a, d, rfl, ha, hd', hu, hk, e⟩ := inv_2 hr e
    unfold askW at e
    rw [hk] at e
    have e := (hd (by simpa using e : wScore :: a.xs.map itoa = wScore :: ws)).2.symm
    obtain ⟨g2, i2, e2⟩ := h2.stop hs2 h0 (ys := a.xs) (r := []) (fun y hy => ⟨ask_64 ha y hy, itoa_ne y⟩) (.inl rfl) (by rw [e]; simp)
    refine ⟨g2, e2, ?_⟩
    obtain ⟨k, i, x, n, m⟩ := a
    obtain ⟨_, _, _, _, _, _, q0, _, q1, q2⟩ := ha
    dsimp only at hk i2 q0 q1 q2 hd' ⊢
    subst hk i2
    have z0 : i = 0 := by rcases q0 with h | h <;> first | exact h | (exact absurd h (by decide))
    have z1 : n = 0 := by rcases q1 with h | h | h <;> first | exact h | (exact absurd h (by decide))
    have z2 : m = 0 := by rcases q2 with h | h <;> first | exact h | (exact absurd h (by decide))
    have z3 : d = [] := by rcases hd' with h | h <;> first | exact h | (exact absurd h (by decide))
    rw [z0, z1, z2, z3]
theorem lineS_7 {ws ws2 : List Wd} {ok ok2 : Bool} {xs : List Int} (h2 : Mny itoa I64 [] ws ok xs ws2 ok2) (hs2 : ok2 = true → stopW [] ws2) : LineS (wWhy :: ws) ok (onlyAk ⟨7, 0, xs, 0, 0⟩ []) ws2 ok2 := by
  refine ⟨fun g2 e4 => ?_, fun h0 l' hr e => ?_⟩
  · obtain ⟨g0, e2, _⟩ := h2.sound g2
    refine ⟨g0, ?_, by simp [onlyAk, ln0], by show (0 : Int) ≤ _; decide⟩
    rw [words_ask, e2, e4]
    simp [askW]
  · obtain ⟨a, d, rfl, ha, hd', hu, hk, e⟩ := inv_7 hr e
    unfold askW at e
    rw [hk] at e
    have e := (hd (by simpa using e : wWhy :: a.xs.map itoa = wWhy :: ws)).2.symm
    obtain ⟨g2, i2, e2⟩ := h2.stop hs2 h0 (ys := a.xs) (r := []) (fun y hy => ⟨ask_64 ha y hy, itoa_ne y⟩) (.inl rfl) (by rw [e]; simp)
    refine ⟨g2, e2, ?_⟩
    obtain ⟨k, i, x, n, m⟩ := a
    obtain ⟨_, _, _, _, _, _, q0, _, q1, q2⟩ := ha
    dsimp only at hk i2 q0 q1 q2 hd' ⊢
    subst hk i2
    have z0 : i = 0 := by rcases q0 with h | h <;> first | exact h | (exact absurd h (by decide))
    have z1 : n = 0 := by rcases q1 with h | h | h <;> first | exact h | (exact absurd h (by decide))
    have z2 : m = 0 := by rcases q2 with h | h <;> first | exact h | (exact absurd h (by decide))
    have z3 : d = [] := by rcases hd' with h | h <;> first | exact h | (exact absurd h (by decide))
    rw [z0, z1, z2, z3]
theorem lineS_3 {ws ws1 ws2 : List Wd} {ok ok1 ok2 : Bool} {n1 n2 : Int} (h1 : Rds (fun x => [itoa x]) I64 ws ok n1 ws1 ok1) (h2 : Rds (fun x => [itoa x]) I64 ws1 ok1 n2 ws2 ok2) : LineS (wAlerts :: ws) ok (onlyAk ⟨3, 0, [], n1, n2⟩ []) ws2 ok2 := by
  refine ⟨fun g2 e4 => ?_, fun h0 l' hr e => ?_⟩
  · obtain ⟨g1, e2, _⟩ := h2.sound g2
    obtain ⟨g0, e1, _⟩ := h1.sound g1
    refine ⟨g0, ?_, by simp [onlyAk, ln0], by show (0 : Int) ≤ _; decide⟩
    rw [words_ask, e1, e2, e4]
    simp [askW]
  · obtain ⟨a, d, rfl, ha, hd', hu, hk, e⟩ := inv_3 hr e
    unfold askW at e
    rw [hk] at e
    have e := (hd (by simpa using e : wAlerts :: [itoa a.n, itoa a.m] = wAlerts :: ws)).2.symm
    obtain ⟨g1, i1, e1⟩ := h1.full h0 a.n [itoa a.m] (few_64 ha.2.2.2.1) (by rw [e]; rfl)
    obtain ⟨g2, i2, e2⟩ := h2.full g1 a.m [] (few_64 ha.2.2.2.2.1) (by rw [e1]; rfl)
    refine ⟨g2, e2, ?_⟩
    obtain ⟨k, i, x, n, m⟩ := a
    obtain ⟨_, _, _, _, _, _, q0, q3, _, _⟩ := ha
    dsimp only at hk i1 i2 q0 q3 hd' ⊢
    subst hk i1 i2
    have z0 : i = 0 := by rcases q0 with h | h <;> first | exact h | (exact absurd h (by decide))
    have z1 : x = [] := by rcases q3 with h | h | h | h <;> first | exact h | (exact absurd h (by decide))
    have z3 : d = [] := by rcases hd' with h | h <;> first | exact h | (exact absurd h (by decide))
    rw [z0, z1, z3]
theorem lineS_4 {ws ws1 : List Wd} {ok ok1 : Bool} {n1 : Int} (h1 : Rds (fun x => [itoa x]) I64 ws ok n1 ws1 ok1) : LineS (wAck :: ws) ok (onlyAk ⟨4, 0, [], n1, 0⟩ []) ws1 ok1 := by
  refine ⟨fun g1 e4 => ?_, fun h0 l' hr e => ?_⟩
  · obtain ⟨g0, e1, _⟩ := h1.sound g1
    refine ⟨g0, ?_, by simp [onlyAk, ln0], by show (0 : Int) ≤ _; decide⟩
    rw [words_ask, e1, e4]
    simp [askW]
  · obtain ⟨a, d, rfl, ha, hd', hu, hk, e⟩ := inv_4 hr e
    unfold askW at e
    rw [hk] at e
    have e := (hd (by simpa using e : wAck :: [itoa a.n] = wAck :: ws)).2.symm
    obtain ⟨g1, i1, e1⟩ := h1.full h0 a.n [] (few_64 ha.2.2.2.1) (by rw [e]; rfl)
    refine ⟨g1, e1, ?_⟩
    obtain ⟨k, i, x, n, m⟩ := a
    obtain ⟨_, _, _, _, _, _, q0, q3, _, q2⟩ := ha
    dsimp only at hk i1 q0 q3 q2 hd' ⊢
    subst hk i1
    have z0 : i = 0 := by rcases q0 with h | h <;> first | exact h | (exact absurd h (by decide))
    have z1 : x = [] := by rcases q3 with h | h | h | h <;> first | exact h | (exact absurd h (by decide))
    have z2 : m = 0 := by rcases q2 with h | h <;> first | exact h | (exact absurd h (by decide))
    have z3 : d = [] := by rcases hd' with h | h <;> first | exact h | (exact absurd h (by decide))
    rw [z0, z1, z2, z3]
theorem lineS_5 {ws : List Wd} {ok : Bool} : LineS (wStats :: ws) ok (onlyAk ⟨5, 0, [], 0, 0⟩ []) ws ok := by
  refine ⟨fun g1 e4 => ?_, fun h0 l' hr e => ?_⟩
  · refine ⟨g1, ?_, by simp [onlyAk, ln0], by show (0 : Int) ≤ _; decide⟩
    rw [words_ask, e4]
    simp [askW]
  · obtain ⟨a, d, rfl, ha, hd', hu, hk, e⟩ := inv_5 hr e
    unfold askW at e
    rw [hk] at e
    have e := (hd (by simpa using e : wStats :: [] = wStats :: ws)).2.symm
    refine ⟨h0, e, ?_⟩
    obtain ⟨k, i, x, n, m⟩ := a
    obtain ⟨_, _, _, _, _, _, q0, q3, q1, q2⟩ := ha
    dsimp only at hk q0 q3 q1 q2 hd' ⊢
    subst hk
    have z0 : i = 0 := by rcases q0 with h | h <;> first | exact h | (exact absurd h (by decide))
    have z1 : x = [] := by rcases q3 with h | h | h | h <;> first | exact h | (exact absurd h (by decide))
    have z4 : n = 0 := by rcases q1 with h | h | h <;> first | exact h | (exact absurd h (by decide))
    have z2 : m = 0 := by rcases q2 with h | h <;> first | exact h | (exact absurd h (by decide))
    have z3 : d = [] := by rcases hd' with h | h <;> first | exact h | (exact absurd h (by decide))
    rw [z0, z1, z2, z3, z4]
theorem lineS_6 {ws : List Wd} {ok : Bool} : LineS (wSnap :: ws) ok (onlyAk ⟨6, 0, [], 0, 0⟩ []) ws ok := by
  refine ⟨fun g1 e4 => ?_, fun h0 l' hr e => ?_⟩
  · refine ⟨g1, ?_, by simp [onlyAk, ln0], by show (0 : Int) ≤ _; decide⟩
    rw [words_ask, e4]
    simp [askW]
  · obtain ⟨a, d, rfl, ha, hd', hu, hk, e⟩ := inv_6 hr e
    unfold askW at e
    rw [hk] at e
    have e := (hd (by simpa using e : wSnap :: [] = wSnap :: ws)).2.symm
    refine ⟨h0, e, ?_⟩
    obtain ⟨k, i, x, n, m⟩ := a
    obtain ⟨_, _, _, _, _, _, q0, q3, q1, q2⟩ := ha
    dsimp only at hk q0 q3 q1 q2 hd' ⊢
    subst hk
    have z0 : i = 0 := by rcases q0 with h | h <;> first | exact h | (exact absurd h (by decide))
    have z1 : x = [] := by rcases q3 with h | h | h | h <;> first | exact h | (exact absurd h (by decide))
    have z4 : n = 0 := by rcases q1 with h | h | h <;> first | exact h | (exact absurd h (by decide))
    have z2 : m = 0 := by rcases q2 with h | h <;> first | exact h | (exact absurd h (by decide))
    have z3 : d = [] := by rcases hd' with h | h <;> first | exact h | (exact absurd h (by decide))
    rw [z0, z1, z2, z3, z4]
theorem conf_64 {c : Cf} (h : confOk c) : cfV c := by
  obtain ⟨⟨_, _⟩, ⟨_, _⟩, ⟨_, _⟩, ⟨_, _, _⟩, ⟨_, _⟩, ⟨_, _⟩, ⟨_, _⟩, ⟨_, _⟩, ⟨_, _⟩, ⟨_, _⟩, ⟨_, _⟩⟩ := h
  intro x hx
  simp only [Cf.nums, List.mem_cons, List.not_mem_nil, or_false] at hx
  unfold I64
  rcases hx with rfl | rfl | rfl | rfl | rfl | rfl | rfl | rfl | rfl | rfl | rfl <;> omega
theorem lineS_conf {ws ws1 : List Wd} {ok ok1 : Bool} {c : Cf} (h1 : Rds cfE cfV ws ok c ws1 ok1) : LineS (wBegin :: ws) ok (onlyCf c) ws1 ok1 := by
  refine ⟨fun g1 e4 => ?_, fun h0 l' hr e => ?_⟩
  · obtain ⟨g0, e1, v1⟩ := h1.sound g1
    refine ⟨g0, ?_, by simp [onlyCf, ln0], (v1 c.c7 (by simp [Cf.nums])).2⟩
    rw [words_conf, e1, e4]
    simp [cfE]
  · obtain ⟨d, rfl, hc, e⟩ := inv_conf hr e
    obtain ⟨g1, i1, e1⟩ := h1.full h0 d [] (conf_64 hc) (by rw [e]; simp)
    exact ⟨g1, e1, by rw [i1]⟩
theorem lineS_stop {ws ws1 : List Wd} {ok ok1 : Bool} {n1 : Int} (h1 : Rds (fun x => [itoa x]) I64 ws ok n1 ws1 ok1) : LineS (wStop :: ws) ok (onlyN n1) ws1 ok1 := by
  refine ⟨fun g1 e4 => ?_, fun h0 l' hr e => ?_⟩
  · obtain ⟨g0, e1, _⟩ := h1.sound g1
    refine ⟨g0, ?_, by simp [onlyN, ln0], by show (0 : Int) ≤ _; decide⟩
    rw [words_stop, e1, e4]
    simp
  · obtain ⟨n, rfl, hn, e⟩ := inv_stop hr e
    obtain ⟨g1, i1, e1⟩ := h1.full h0 n [] hn (by rw [e]; rfl)
    exact ⟨g1, e1, by rw [i1]⟩
theorem keptW_ne (k : Int × Int) : keptW k ≠ [] := by simp [keptW]
theorem lineS_crash {ws ws1 : List Wd} {ok ok1 : Bool} {k : List (Int × Int)} (h1 : Mny keptW I2 [] ws ok k ws1 ok1) (hs1 : ok1 = true → stopW [] ws1) : LineS (wCrash :: ws) ok (onlyKept k) ws1 ok1 := by
  refine ⟨fun g1 e4 => ?_, fun h0 l' hr e => ?_⟩
  · obtain ⟨g0, e1, _⟩ := h1.sound g1
    refine ⟨g0, ?_, by simp [onlyKept, ln0], by show (0 : Int) ≤ _; decide⟩
    rw [words_crash, e1, e4]
    simp
  · obtain ⟨m, rfl, hm, e⟩ := inv_crash hr e
    obtain ⟨g1, i1, e1⟩ := h1.stop hs1 h0 (ys := m) (r := []) (fun y hy => ⟨by have := hm y hy; unfold I2 I64; omega, keptW_ne y⟩) (.inl rfl) (by rw [e]; simp)
    exact ⟨g1, e1, by rw [i1]⟩
theorem lineS_open {ws : List Wd} {ok : Bool} : LineS (wOpen :: ws) ok (ln0 5) ws ok := by
  refine ⟨fun g1 e4 => ?_, fun h0 l' hr e => ?_⟩
  · refine ⟨g1, ?_, by simp [ln0], by show (0 : Int) ≤ _; decide⟩
    rw [words_open, e4]
  · obtain ⟨rfl, e2⟩ := inv_open hr e
    exact ⟨h0, e2, rfl⟩
/-- another word: no right line begins so -/
theorem read_other {w : Wd} {ws : List Wd} (h : w ∉ [wBegin, wPut, wScore, wWhy, wAlerts, wAck, wStats, wSnap, wStop, wCrash, wOpen]) : readW (w :: ws) = none :=
  read_none fun l hr e => by
    cases hr with
    | conf c _ => exact h (by rw [← (hd e).1]; simp)
    | stop n _ _ => exact h (by rw [← (hd e).1]; simp)
    | crash k _ _ => exact h (by rw [← (hd e).1]; simp)
    | opens => exact h (by rw [← (hd e).1]; simp)
    | ask a d h1 _ _ _ =>
      obtain ⟨v, r, e2, hm⟩ := ask_tail a d h1.1
      rw [words_ask, e2] at e
      rw [(hd e).1] at hm
      apply h
      revert hm
      simp only [List.mem_cons, List.not_mem_nil, or_false]
      rintro (h | h | h | h | h | h | h) <;> simp [h]
end Go.Proofs.YtchgfabgighbfaaGreatDoor.ScrS
