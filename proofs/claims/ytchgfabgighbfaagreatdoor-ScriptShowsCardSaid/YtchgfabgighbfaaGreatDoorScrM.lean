/- Scripts, plainly: lines, which are right, their words, their text. No program is in sight. -/
import Derived.Test.YtchgfabgighbfaaGreatDoorTxtM
namespace Go.Proofs.YtchgfabgighbfaaGreatDoor.ScrM
set_option linter.unusedVariables false
open Go.Lib TxtM

/-- a way to work: Dim, Window, Trees, Sample, Every, Kind, Part, Whole, Tries, Keep, Notes -/
structure Cf where
  c0 : Int
  c1 : Int
  c2 : Int
  c3 : Int
  c4 : Int
  c5 : Int
  c6 : Int
  c7 : Int
  c8 : Int
  c9 : Int
  c10 : Int
def Cf.nums (c : Cf) : List Int := [c.c0, c.c1, c.c2, c.c3, c.c4, c.c5, c.c6, c.c7, c.c8, c.c9, c.c10]
/-- what is asked -/
structure Ak where
  kind : Int
  id : Int
  xs : List Int
  n : Int
  m : Int
/-- a line -/
structure Ln where
  kind : Int
  cf : Cf
  ak : Ak
  draws : List Nat
  n : Int
  kept : List (Int × Int)
def cf0 : Cf := ⟨0, 0, 0, 0, 0, 0, 0, 0, 0, 0, 0⟩
def ak0 : Ak := ⟨0, 0, [], 0, 0⟩
def ln0 (k : Int) : Ln := ⟨k, cf0, ak0, [], 0, []⟩
def confOk (c : Cf) : Prop := (1 ≤ c.c0 ∧ c.c0 ≤ 8) ∧ (2 ≤ c.c1 ∧ c.c1 ≤ 256) ∧ (1 ≤ c.c2 ∧ c.c2 ≤ 16) ∧ (2 ≤ c.c3 ∧ c.c3 ≤ 64 ∧ c.c3 ≤ c.c1) ∧ (1 ≤ c.c4 ∧ c.c4 ≤ 256) ∧ (1 ≤ c.c5 ∧ c.c5 ≤ 2) ∧
  (2 ≤ c.c7 ∧ c.c7 ≤ 1000) ∧ (1 ≤ c.c6 ∧ c.c6 ≤ c.c7 - 1) ∧ (1 ≤ c.c8 ∧ c.c8 ≤ 64) ∧ (1 ≤ c.c9 ∧ c.c9 ≤ 64) ∧ (1 ≤ c.c10 ∧ c.c10 ≤ 256)
def few (n : Int) : Prop := 0 ≤ n ∧ n ≤ 1099511627776
def askOk (a : Ak) : Prop := (1 ≤ a.kind ∧ a.kind ≤ 7) ∧ a.xs.length ≤ 8 ∧ few a.id ∧ few a.n ∧ few a.m ∧ (∀ x ∈ a.xs, -2147483648 ≤ x ∧ x ≤ 2147483647) ∧
  (a.kind = 1 ∨ a.id = 0) ∧ (a.kind = 1 ∨ a.kind = 2 ∨ a.kind = 7 ∨ a.xs = []) ∧ (a.kind = 3 ∨ a.kind = 4 ∨ a.n = 0) ∧ (a.kind = 3 ∨ a.m = 0)
def keptOk (l : List (Int × Int)) : Prop := ∀ k ∈ l, (0 ≤ k.1 ∧ k.1 ≤ 4096) ∧ (0 ≤ k.2 ∧ k.2 ≤ 64)
def onlyCf (c : Cf) : Ln := { ln0 1 with cf := c }
def onlyAk (a : Ak) (d : List Nat) : Ln := { ln0 2 with ak := a, draws := d }
def onlyN (n : Int) : Ln := { ln0 3 with n := n }
def onlyKept (k : List (Int × Int)) : Ln := { ln0 4 with kept := k }
/-- which lines are right -/
inductive Right : Ln → Prop
  | conf (c : Cf) : confOk c → Right (onlyCf c)
  | ask (a : Ak) (d : List Nat) : askOk a → d.length ≤ 2048 → (a.kind = 1 ∨ d = []) → (∀ x ∈ d, x < 18446744073709551616) → Right (onlyAk a d)
  | stop (n : Int) : -1 ≤ n → n ≤ 1099511627776 → Right (onlyN n)
  | crash (k : List (Int × Int)) : keptOk k → k.length ≤ 256 → Right (onlyKept k)
  | opens : Right (ln0 5)
abbrev Wd := List UInt8
def wBegin : Wd := [98, 101, 103, 105, 110]
def wPut : Wd := [112, 117, 116]
def wScore : Wd := [115, 99, 111, 114, 101]
def wWhy : Wd := [119, 104, 121]
def wAlerts : Wd := [97, 108, 101, 114, 116, 115]
def wAck : Wd := [97, 99, 107]
def wStats : Wd := [115, 116, 97, 116, 115]
def wSnap : Wd := [115, 110, 97, 112]
def wStop : Wd := [115, 116, 111, 112]
def wCrash : Wd := [99, 114, 97, 115, 104]
def wOpen : Wd := [111, 112, 101, 110]
def keptW (k : Int × Int) : Wd := itoa k.1 ++ (58 :: itoa k.2)
def askW (a : Ak) (d : List Nat) : List Wd :=
  if a.kind = 1 then wPut :: itoa a.id :: (a.xs.map itoa ++ ([47] :: d.map decDigits))
  else if a.kind = 2 then wScore :: a.xs.map itoa
  else if a.kind = 7 then wWhy :: a.xs.map itoa
  else if a.kind = 3 then [wAlerts, itoa a.n, itoa a.m]
  else if a.kind = 4 then [wAck, itoa a.n]
  else if a.kind = 5 then [wStats]
  else [wSnap]
def lineW (l : Ln) : List Wd :=
  if l.kind = 1 then wBegin :: l.cf.nums.map itoa
  else if l.kind = 2 then askW l.ak l.draws
  else if l.kind = 3 then [wStop, itoa l.n]
  else if l.kind = 4 then wCrash :: l.kept.map keptW
  else [wOpen]
/-- words, a blank between them -/
def joinW : List Wd → List UInt8
  | [] => []
  | w :: r => w ++ r.flatMap fun x => 32 :: x
def lineT (l : Ln) : List UInt8 := joinW (lineW l) ++ [10]
/-- what is between the bytes c -/
def splitC (c : UInt8) : List UInt8 → List Wd
  | [] => [[]]
  | x :: r => if x = c then [] :: splitC c r else match splitC c r with
    | [] => [[x]]
    | w :: ws => (x :: w) :: ws
theorem split_ne (c : UInt8) : ∀ s, splitC c s ≠ []
  | [] => by simp [splitC]
  | x :: r => by
    rw [splitC]
    split
    · simp
    · split <;> simp
theorem split_pre (c : UInt8) : ∀ (w : Wd) (s : List UInt8), c ∉ w → ∃ a r, splitC c s = a :: r ∧ splitC c (w ++ s) = (w ++ a) :: r
  | [], s, _ => by
    cases h : splitC c s with
    | nil => exact absurd h (split_ne c s)
    | cons a r => exact ⟨a, r, rfl, h⟩
  | x :: w, s, h => by
    obtain ⟨a, r, h1, h2⟩ := split_pre c w s (fun hh => h (List.mem_cons_of_mem _ hh))
    refine ⟨a, r, h1, ?_⟩
    rw [List.cons_append, splitC, if_neg (fun e => h (by rw [e]; exact List.mem_cons_self ..)), h2]
    rfl
theorem split_word (c : UInt8) (w : Wd) (h : c ∉ w) : splitC c w = [w] := by
  obtain ⟨a, r, h1, h2⟩ := split_pre c w [] h
  simp only [splitC, List.cons.injEq] at h1
  obtain ⟨rfl, rfl⟩ := h1
  simpa using h2
theorem split_join (ws : List Wd) (hne : ws ≠ []) (h : ∀ w ∈ ws, (32 : UInt8) ∉ w) : splitC 32 (joinW ws) = ws := by
  cases ws with
  | nil => exact absurd rfl hne
  | cons w r =>
    have hw := h w (by simp)
    have hr : ∀ x ∈ r, (32 : UInt8) ∉ x := fun x hx => h x (by simp [hx])
    clear h hne
    induction r generalizing w with
    | nil => simpa [joinW] using split_word 32 w hw
    | cons x r ih =>
      have hx := ih x (hr x (by simp)) (fun y hy => hr y (by simp [hy]))
      have e : joinW (w :: x :: r) = w ++ (32 :: joinW (x :: r)) := by simp [joinW]
      rw [e]
      obtain ⟨a, q, h1, h2⟩ := split_pre 32 w (32 :: joinW (x :: r)) hw
      rw [h2]
      rw [splitC, if_pos rfl, hx] at h1
      simp only [List.cons.injEq] at h1
      obtain ⟨rfl, rfl⟩ := h1
      simp
theorem join_split : ∀ s, joinW (splitC 32 s) = s
  | [] => by simp [splitC, joinW]
  | x :: r => by
    have ih := join_split r
    rw [splitC]
    split
    · rename_i h
      cases hs : splitC 32 r with
      | nil => exact absurd hs (split_ne 32 r)
      | cons a q =>
        rw [hs] at ih
        subst h
        simp only [joinW] at ih ⊢
        rw [List.flatMap_cons, List.nil_append, List.cons_append, ih]
    · cases hs : splitC 32 r with
      | nil => exact absurd hs (split_ne 32 r)
      | cons a q =>
        rw [hs] at ih
        simp only [joinW] at ih ⊢
        rw [List.cons_append, ih]
/-- a numeral holds neither blank nor colon nor slash nor a line's end -/
theorem dec_no (u : Nat) {c : UInt8} (hc : isD c = false) : c ∉ decDigits u := fun h => by
  have := List.all_eq_true.1 (dec_dig u).2 c h
  rw [hc] at this
  cases this
theorem itoa_no (n : Int) {c : UInt8} (hc : isD c = false) (h45 : c ≠ 45) : c ∉ itoa n := fun h => by
  unfold itoa at h
  split at h
  · rcases List.mem_cons.1 h with h | h
    · exact h45 h
    · exact dec_no _ hc h
  · exact dec_no _ hc h
theorem dec_inj {u v : Nat} (h : decDigits u = decDigits v) : u = v := by
  have := (dec_dig u).1
  rw [h, (dec_dig v).1] at this
  exact this.symm
theorem itoa_inj {a b : Int} (h : itoa a = itoa b) : a = b := by
  unfold itoa at h
  split at h <;> split at h
  · simp only [List.cons.injEq, true_and] at h
    have := dec_inj h
    omega
  · rename_i h1 h2
    have : (45 : UInt8) ∈ decDigits b.toNat := by rw [← h]; exact List.mem_cons_self ..
    exact absurd this (dec_no _ (by decide))
  · rename_i h1 h2
    have : (45 : UInt8) ∈ decDigits a.toNat := by rw [h]; exact List.mem_cons_self ..
    exact absurd this (dec_no _ (by decide))
  · have := dec_inj h
    omega
theorem map_inj {α β : Type} {f : α → β} (hf : ∀ a b, f a = f b → a = b) : ∀ {l m : List α}, l.map f = m.map f → l = m
  | [], [], _ => rfl
  | [], _ :: _, h => by simp at h
  | _ :: _, [], h => by simp at h
  | a :: l, b :: m, h => by
    simp only [List.map_cons, List.cons.injEq] at h
    rw [hf a b h.1, map_inj hf h.2]
theorem keptW_inj (a b : Int × Int) (h : keptW a = keptW b) : a = b := by
  unfold keptW at h
  have h58 : ∀ n : Int, (58 : UInt8) ∉ itoa n := fun n => itoa_no n (by decide) (by decide)
  obtain ⟨a1, q1, e1, f1⟩ := split_pre 58 (itoa a.1) (58 :: itoa a.2) (h58 _)
  obtain ⟨a2, q2, e2, f2⟩ := split_pre 58 (itoa b.1) (58 :: itoa b.2) (h58 _)
  rw [splitC, if_pos rfl, split_word 58 _ (h58 _)] at e1 e2
  simp only [List.cons.injEq] at e1 e2
  obtain ⟨rfl, rfl⟩ := e1
  obtain ⟨rfl, rfl⟩ := e2
  rw [h, f2] at f1
  simp only [List.append_nil, List.cons.injEq, and_true] at f1
  exact Prod.ext (itoa_inj f1.1.symm) (itoa_inj f1.2.symm)
theorem word_no (l : Ln) {c : UInt8} (hc : c = 32 ∨ c = 10) : ∀ w ∈ lineW l, c ∉ w := by
  have hD : isD c = false := by rcases hc with rfl | rfl <;> decide
  have h45 : c ≠ 45 := by rcases hc with rfl | rfl <;> decide
  have hI : ∀ n : Int, c ∉ itoa n := fun n => itoa_no n hD h45
  have hN : ∀ u : Nat, c ∉ decDigits u := fun u => dec_no u hD
  have hM : ∀ l : List Int, ∀ w ∈ l.map itoa, c ∉ w := fun l w hw => by
    obtain ⟨x, _, rfl⟩ := List.mem_map.1 hw; exact hI x
  have hX : ∀ w ∈ [wBegin, wPut, wScore, wWhy, wAlerts, wAck, wStats, wSnap, wStop, wCrash, wOpen, [47]], c ∉ w := by
    rcases hc with rfl | rfl <;> decide
  intro w hw
  unfold lineW askW at hw
  repeat' split at hw
  · rcases List.mem_cons.1 hw with rfl | hw
    · exact hX _ (by simp)
    · exact hM _ _ hw
  · rcases List.mem_cons.1 hw with rfl | hw
    · exact hX _ (by simp)
    · rcases List.mem_cons.1 hw with rfl | hw
      · exact hI _
      · rcases List.mem_append.1 hw with hw | hw
        · exact hM _ _ hw
        · rcases List.mem_cons.1 hw with rfl | hw
          · exact hX _ (by simp)
          · obtain ⟨x, _, rfl⟩ := List.mem_map.1 hw; exact hN x
  · rcases List.mem_cons.1 hw with rfl | hw
    · exact hX _ (by simp)
    · exact hM _ _ hw
  · rcases List.mem_cons.1 hw with rfl | hw
    · exact hX _ (by simp)
    · exact hM _ _ hw
  · simp only [List.mem_cons, List.not_mem_nil, or_false] at hw
    rcases hw with rfl | rfl | rfl
    · exact hX _ (by simp)
    · exact hI _
    · exact hI _
  · simp only [List.mem_cons, List.not_mem_nil, or_false] at hw
    rcases hw with rfl | rfl
    · exact hX _ (by simp)
    · exact hI _
  · simp only [List.mem_cons, List.not_mem_nil, or_false] at hw
    subst hw; exact hX _ (by simp)
  · simp only [List.mem_cons, List.not_mem_nil, or_false] at hw
    subst hw; exact hX _ (by simp)
  · simp only [List.mem_cons, List.not_mem_nil, or_false] at hw
    rcases hw with rfl | rfl
    · exact hX _ (by simp)
    · exact hI _
  · rcases List.mem_cons.1 hw with rfl | hw
    · exact hX _ (by simp)
    · obtain ⟨k, _, rfl⟩ := List.mem_map.1 hw
      unfold keptW
      intro h
      rcases List.mem_append.1 h with h | h
      · exact hI _ h
      · rcases List.mem_cons.1 h with h | h
        · rcases hc with rfl | rfl <;> exact absurd h (by decide)
        · exact hI _ h
  · simp only [List.mem_cons, List.not_mem_nil, or_false] at hw
    subst hw; exact hX _ (by simp)
theorem lineW_ne (l : Ln) : lineW l ≠ [] := by
  unfold lineW askW
  repeat' split
  all_goals simp
theorem split_line (l : Ln) : splitC 32 (joinW (lineW l)) = lineW l := split_join _ (lineW_ne l) (word_no l (.inl rfl))
end Go.Proofs.YtchgfabgighbfaaGreatDoor.ScrM
