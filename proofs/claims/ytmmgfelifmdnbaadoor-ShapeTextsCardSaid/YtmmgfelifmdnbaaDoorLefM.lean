/- Ways of vectors through a tree, plainly: where one comes out, which nodes it passes, how many pass each node. -/
import Derived.Test.YtmmgfelifmdnbaaDoorItrD
namespace Go.Proofs.YtmmgfelifmdnbaaDoor.LefM
set_option linter.unusedVariables false
open ShpM ShpD ItrD

/-- the leaf at which a vector comes out -/
noncomputable def leafOf : B → Nat → List Int → Nat
  | .leaf _, i, _ => i
  | .fork c a l r, i, x => if (leftR c a x).1 = true then leafOf l (i + 1) x else leafOf r (i + 1 + l.count) x
/-- the nodes on the way -/
noncomputable def wayOf : B → Nat → List Int → List Nat
  | .leaf _, i, _ => [i]
  | .fork c a l r, i, x => i :: (if (leftR c a x).1 = true then wayOf l (i + 1) x else wayOf r (i + 1 + l.count) x)
theorem leaf_range : ∀ (b : B) (i : Nat) (x : List Int), i ≤ leafOf b i x ∧ leafOf b i x < i + b.count
  | .leaf n, i, x => by simp only [leafOf, B.count]; omega
  | .fork c a l r, i, x => by
    simp only [leafOf, B.count]
    have := leaf_range l (i + 1) x
    have := leaf_range r (i + 1 + l.count) x
    split <;> omega
theorem way_range : ∀ (b : B) (i : Nat) (x : List Int), ∀ j ∈ wayOf b i x, i ≤ j ∧ j < i + b.count
  | .leaf n, i, x, j, h => by simp only [wayOf, List.mem_singleton] at h; subst h; simp only [B.count]; omega
  | .fork c a l r, i, x, j, h => by
    simp only [wayOf, List.mem_cons] at h
    have := count_pos l
    have := count_pos r
    simp only [B.count]
    rcases h with rfl | h
    · omega
    · split at h
      · have := way_range l (i + 1) x j h; omega
      · have := way_range r (i + 1 + l.count) x j h; omega
theorem way_len : ∀ (b : B) (i : Nat) (x : List Int), (wayOf b i x).length ≤ b.high + 1
  | .leaf n, i, x => by simp [wayOf]
  | .fork c a l r, i, x => by
    simp only [wayOf, B.high, List.length_cons]
    have := way_len l (i + 1) x
    have := way_len r (i + 1 + l.count) x
    split <;> omega
theorem way_head : ∀ (b : B) (i : Nat) (x : List Int), ∃ r, wayOf b i x = i :: r
  | .leaf n, i, x => ⟨[], rfl⟩
  | .fork c a l r, i, x => ⟨_, rfl⟩
theorem way_last : ∀ (b : B) (i : Nat) (x : List Int), (wayOf b i x).getLast? = some (leafOf b i x)
  | .leaf n, i, x => rfl
  | .fork c a l r, i, x => by
    simp only [wayOf, leafOf]
    split
    · obtain ⟨t, ht⟩ := way_head l (i + 1) x
      have := way_last l (i + 1) x
      rw [ht] at this ⊢
      simpa using this
    · obtain ⟨t, ht⟩ := way_head r (i + 1 + l.count) x
      have := way_last r (i + 1 + l.count) x
      rw [ht] at this ⊢
      simpa using this
theorem way_nodup : ∀ (b : B) (i : Nat) (x : List Int), (wayOf b i x).Nodup
  | .leaf n, i, x => by simp [wayOf]
  | .fork c a l r, i, x => by
    simp only [wayOf]
    split
    · exact List.nodup_cons.2 ⟨fun h => by have := way_range l (i + 1) x i h; omega, way_nodup l (i + 1) x⟩
    · exact List.nodup_cons.2 ⟨fun h => by have := way_range r (i + 1 + l.count) x i h; omega, way_nodup r (i + 1 + l.count) x⟩
/-- what passes a fork passes one of its parts -/
theorem way_fork : ∀ (b : B) (i : Nat) (x : List Int) (ls : List Nd) (j : Nat) (c : List Int) (a : Int) (l r : B), At ls i b → i ≤ j → j < i + b.count → At ls j (.fork c a l r) →
    (j ∈ wayOf b i x ↔ j + 1 ∈ wayOf b i x ∨ j + 1 + l.count ∈ wayOf b i x) ∧ ¬ (j + 1 ∈ wayOf b i x ∧ j + 1 + l.count ∈ wayOf b i x)
  | .leaf n, i, x, ls, j, c, a, l, r, h, h1, h2, hf => by
    simp only [B.count] at h2
    obtain rfl : j = i := by omega
    have := at_unique h hf
    cases this
  | .fork c' a' l' r', i, x, ls, j, c, a, l, r, h, h1, h2, hf => by
    obtain ⟨h0, hl, hr⟩ := at_fork.1 h
    have cl := count_pos l
    have cr := count_pos r
    have cl' := count_pos l'
    have cr' := count_pos r'
    simp only [B.count] at h2
    by_cases hj : j = i
    · subst hj
      have := at_unique h hf
      cases this
      obtain ⟨u, hu⟩ := way_head l' (j + 1) x
      obtain ⟨v, hv⟩ := way_head r' (j + 1 + l'.count) x
      simp only [wayOf]
      split
      · refine ⟨by rw [hu]; simp, fun ⟨_, hh⟩ => ?_⟩
        rcases List.mem_cons.1 hh with hh | hh
        · omega
        · have := way_range l' (j + 1) x _ hh; omega
      · refine ⟨by rw [hv]; simp, fun ⟨hh, _⟩ => ?_⟩
        rcases List.mem_cons.1 hh with hh | hh
        · omega
        · have := way_range r' (j + 1 + l'.count) x _ hh; omega
    · have hle := at_le hf
      simp only [B.count] at hle
      -- the parts of j lie where j lies
      have out : ∀ (b : B) (k : Nat) (m : Nat), m < k ∨ k + b.count ≤ m → m ∉ wayOf b k x := fun b k m hm hh => by have := way_range b k x m hh; omega
      by_cases hjl : j < i + 1 + l'.count
      · have IH := way_fork l' (i + 1) x ls j c a l r hl (by omega) (by omega) hf
        have hin := sub_in hl (by omega) (by omega) hf
        simp only [B.count] at hin
        simp only [wayOf]
        split
        · simp only [List.mem_cons, hj, show ¬ j + 1 = i by omega, show ¬ j + 1 + l.count = i by omega, false_or]
          exact IH
        · have o1 := out r' (i + 1 + l'.count) j (by omega)
          have o2 := out r' (i + 1 + l'.count) (j + 1) (by omega)
          have o3 := out r' (i + 1 + l'.count) (j + 1 + l.count) (by omega)
          simp only [List.mem_cons, hj, show ¬ j + 1 = i by omega, show ¬ j + 1 + l.count = i by omega, false_or]
          exact ⟨⟨fun h => absurd h o1, fun h => h.elim (fun h => absurd h o2) (fun h => absurd h o3)⟩, fun h => o2 h.1⟩
      · have IH := way_fork r' (i + 1 + l'.count) x ls j c a l r hr (by omega) (by omega) hf
        simp only [wayOf]
        split
        · have o1 := out l' (i + 1) j (by omega)
          have o2 := out l' (i + 1) (j + 1) (by omega)
          have o3 := out l' (i + 1) (j + 1 + l.count) (by omega)
          simp only [List.mem_cons, hj, show ¬ j + 1 = i by omega, show ¬ j + 1 + l.count = i by omega, false_or]
          exact ⟨⟨fun h => absurd h o1, fun h => h.elim (fun h => absurd h o2) (fun h => absurd h o3)⟩, fun h => o2 h.1⟩
        · simp only [List.mem_cons, hj, show ¬ j + 1 = i by omega, show ¬ j + 1 + l.count = i by omega, false_or]
          exact IH
  where
  sub_in : ∀ {b : B} {ls : List Nd} {i j : Nat} {b' : B}, At ls i b → i ≤ j → j < i + b.count → At ls j b' → j + b'.count ≤ i + b.count
    | .leaf n, ls, i, j, b', h, h1, h2, hf => by
      simp only [B.count] at h2
      obtain rfl : j = i := by omega
      have := at_unique h hf
      subst this
      simp only [B.count]; omega
    | .fork c a l r, ls, i, j, b', h, h1, h2, hf => by
      obtain ⟨h0, hl, hr⟩ := at_fork.1 h
      simp only [B.count] at h2 ⊢
      by_cases hj : j = i
      · subst hj
        have := at_unique h hf
        subst this
        simp only [B.count]; omega
      · by_cases hjl : j < i + 1 + l.count
        · have := sub_in hl (by omega) (by omega) hf; omega
        · have := sub_in hr (by omega) (by omega) hf; omega
/-- at a leaf the way ends -/
theorem way_leaf : ∀ (b : B) (i : Nat) (x : List Int) (ls : List Nd) (j : Nat) (n : Int), At ls i b → i ≤ j → j < i + b.count → At ls j (.leaf n) → (j ∈ wayOf b i x ↔ leafOf b i x = j)
  | .leaf m, i, x, ls, j, n, h, h1, h2, hf => by
    simp only [B.count] at h2
    obtain rfl : j = i := by omega
    simp [wayOf, leafOf]
  | .fork c a l r, i, x, ls, j, n, h, h1, h2, hf => by
    obtain ⟨h0, hl, hr⟩ := at_fork.1 h
    simp only [B.count] at h2
    have hj : j ≠ i := fun e => by subst e; have := at_unique h hf; cases this
    have lr := leaf_range l (i + 1) x
    have rr := leaf_range r (i + 1 + l.count) x
    simp only [wayOf, leafOf, List.mem_cons, hj, false_or]
    by_cases hjl : j < i + 1 + l.count
    · have IH := way_leaf l (i + 1) x ls j n hl (by omega) (by omega) hf
      split
      · exact IH
      · exact ⟨fun hh => by have := way_range r _ x j hh; omega, fun hh => by omega⟩
    · have IH := way_leaf r (i + 1 + l.count) x ls j n hr (by omega) (by omega) hf
      split
      · exact ⟨fun hh => by have := way_range l _ x j hh; omega, fun hh => by omega⟩
      · exact IH
/-- how many vectors come out at a node, and how many pass it -/
noncomputable def outN (b : B) (l : List (List Int)) (j : Nat) : Nat := l.countP fun x => decide (leafOf b 0 x = j)
noncomputable def thru (b : B) (l : List (List Int)) (j : Nat) : Nat := l.countP fun x => decide (j ∈ wayOf b 0 x)
theorem thru_le (b : B) (l : List (List Int)) (j : Nat) : thru b l j ≤ l.length := List.countP_le_length
theorem out_le (b : B) (l : List (List Int)) (j : Nat) : outN b l j ≤ l.length := List.countP_le_length
theorem out_app (b : B) (l : List (List Int)) (x : List Int) (j : Nat) : outN b (l ++ [x]) j = outN b l j + if leafOf b 0 x = j then 1 else 0 := by
  unfold outN
  rw [List.countP_append]
  by_cases h : leafOf b 0 x = j <;> simp [h]
theorem thru_app (b : B) (l : List (List Int)) (x : List Int) (j : Nat) : thru b (l ++ [x]) j = thru b l j + if j ∈ wayOf b 0 x then 1 else 0 := by
  unfold thru
  rw [List.countP_append]
  by_cases h : j ∈ wayOf b 0 x <;> simp [h]
theorem countP_two {α : Type} (p q r : α → Bool) (h : ∀ x, p x = (q x || r x) ∧ (q x && r x) = false) : ∀ l : List α, l.countP p = l.countP q + l.countP r
  | [] => rfl
  | x :: l => by
    rw [List.countP_cons, List.countP_cons, List.countP_cons, countP_two p q r h l]
    obtain ⟨h1, h2⟩ := h x
    revert h1 h2
    cases p x <;> cases q x <;> cases r x <;> simp <;> omega
theorem thru_leaf {b : B} {ls : List Nd} {j : Nat} {n : Int} (l : List (List Int)) (h : At ls 0 b) (hj : j < b.count) (hf : At ls j (.leaf n)) : thru b l j = outN b l j := by
  unfold thru outN
  congr 1
  funext x
  exact decide_eq_decide.2 (way_leaf b 0 x ls j n h (by omega) (by omega) hf)
theorem thru_fork {b : B} {ls : List Nd} {j : Nat} {c : List Int} {a : Int} {p q : B} (l : List (List Int)) (h : At ls 0 b) (hj : j < b.count) (hf : At ls j (.fork c a p q)) : thru b l j = thru b l (j + 1) + thru b l (j + 1 + p.count) := by
  unfold thru
  refine countP_two _ _ _ (fun x => ?_) l
  have := way_fork b 0 x ls j c a p q h (by omega) (by omega) hf
  refine ⟨?_, ?_⟩
  · rw [← Bool.decide_or]; exact decide_eq_decide.2 this.1
  · rw [← Bool.decide_and]; exact decide_eq_false this.2
theorem thru_root (b : B) (l : List (List Int)) : thru b l 0 = l.length := by
  unfold thru
  rw [List.countP_eq_length]
  intro x _
  obtain ⟨t, ht⟩ := way_head b 0 x
  rw [ht]; simp
end Go.Proofs.YtmmgfelifmdnbaaDoor.LefM
