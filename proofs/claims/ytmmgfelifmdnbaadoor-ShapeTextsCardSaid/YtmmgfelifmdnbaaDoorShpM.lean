/- Trees by their nodes in preorder: the plain law. No program is in sight. -/
namespace Go.Proofs.YtmmgfelifmdnbaaDoor.ShpM
set_option linter.unusedVariables false

/-- a node, as it is told -/
structure Nd where
  coef : List Int
  at_ : Int
  left : Int
  right : Int
  size : Int
/-- a right tree -/
inductive B
  | leaf (n : Int)
  | fork (c : List Int) (a : Int) (l r : B)
def B.size : B → Int
  | .leaf n => n
  | .fork _ _ l r => l.size + r.size
def B.count : B → Nat
  | .leaf _ => 1
  | .fork _ _ l r => 1 + l.count + r.count
def B.high : B → Nat
  | .leaf _ => 0
  | .fork _ _ l r => 1 + max l.high r.high
/-- its nodes, the first one at a place -/
def B.nodes : B → Nat → List Nd
  | .leaf n, _ => [⟨[], 0, 0, 0, n⟩]
  | .fork c a l r, k => ⟨c, a, ((k + 1 : Nat) : Int), ((k + 1 + l.count : Nat) : Int), l.size + r.size⟩ :: (l.nodes (k + 1) ++ r.nodes (k + 1 + l.count))
theorem nodes_len : ∀ (b : B) (k : Nat), (b.nodes k).length = b.count
  | .leaf _, _ => rfl
  | .fork _ _ l r, k => by simp only [B.nodes, B.count, List.length_cons, List.length_append, nodes_len l, nodes_len r]; omega
theorem count_pos : ∀ b : B, 0 < b.count
  | .leaf _ => by simp [B.count]
  | .fork _ _ l r => by simp only [B.count]; omega
def partsOk (c : List Int) (dim : Int) : Prop := 1 ≤ dim ∧ dim ≤ 8 ∧ (c.length : Int) = dim ∧ (∀ x ∈ c, -4 ≤ x ∧ x ≤ 4) ∧ ∃ x ∈ c, x ≠ 0
def cutOk (c : List Int) (a dim : Int) : Prop := partsOk c dim ∧ -137438953472 ≤ a ∧ a ≤ 137438953472
def B.ok (dim : Int) : B → Prop
  | .leaf n => 1 ≤ n
  | .fork c a l r => cutOk c a dim ∧ l.ok dim ∧ r.ok dim
/-- from place i on the nodes are those of the tree -/
def At (l : List Nd) (i : Nat) (b : B) : Prop := ∃ rest, l.drop i = b.nodes i ++ rest
theorem at_leaf {l : List Nd} {i : Nat} {n : Int} : At l i (.leaf n) ↔ l[i]? = some ⟨[], 0, 0, 0, n⟩ := by
  unfold At
  constructor
  · rintro ⟨rest, h⟩
    have := List.getElem?_drop (xs := l) (i := i) (j := 0)
    rw [h] at this
    simpa [B.nodes] using this.symm
  · intro h
    have hi := (List.getElem?_eq_some_iff.1 h).1
    refine ⟨l.drop (i + 1), ?_⟩
    rw [List.drop_eq_getElem_cons hi]
    have : l[i] = ⟨[], 0, 0, 0, n⟩ := (List.getElem?_eq_some_iff.1 h).2
    rw [this]; rfl
theorem at_fork {l : List Nd} {i : Nat} {c : List Int} {a : Int} {x y : B} : At l i (.fork c a x y) ↔
    l[i]? = some ⟨c, a, ((i + 1 : Nat) : Int), ((i + 1 + x.count : Nat) : Int), x.size + y.size⟩ ∧ At l (i + 1) x ∧ At l (i + 1 + x.count) y := by
  unfold At
  constructor
  · rintro ⟨rest, h⟩
    have e : ∀ j, l[i + j]? = (B.nodes (.fork c a x y) i ++ rest)[j]? := fun j => by rw [← h, List.getElem?_drop]
    have e1 : l.drop (i + 1) = x.nodes (i + 1) ++ (y.nodes (i + 1 + x.count) ++ rest) := by
      have : l.drop (i + 1) = (l.drop i).drop 1 := by rw [List.drop_drop]
      rw [this, h]; simp [B.nodes]
    refine ⟨by simpa [B.nodes] using e 0, ⟨_, e1⟩, ⟨rest, ?_⟩⟩
    have : l.drop (i + 1 + x.count) = (l.drop (i + 1)).drop x.count := by rw [List.drop_drop]
    rw [this, e1, ← nodes_len x (i + 1), List.drop_left, nodes_len]
  · rintro ⟨h, ⟨r1, h1⟩, ⟨r2, h2⟩⟩
    have hi := (List.getElem?_eq_some_iff.1 h).1
    refine ⟨r2, ?_⟩
    have hr : r1 = y.nodes (i + 1 + x.count) ++ r2 := by
      have : l.drop (i + 1 + x.count) = (l.drop (i + 1)).drop x.count := by rw [List.drop_drop]
      rw [h1, ← nodes_len x (i + 1), List.drop_left, nodes_len] at this
      rw [← this, h2]
    rw [List.drop_eq_getElem_cons hi, h1, hr, (List.getElem?_eq_some_iff.1 h).2]
    simp [B.nodes]
theorem at_le : ∀ {b : B} {l : List Nd} {i : Nat}, At l i b → i + b.count ≤ l.length := by
  rintro b l i ⟨rest, h⟩
  have := congrArg List.length h
  rw [List.length_drop, List.length_append, nodes_len] at this
  have := count_pos b
  omega
theorem at_unique : ∀ {b b' : B} {l : List Nd} {i : Nat}, At l i b → At l i b' → b = b'
  | .leaf n, .leaf m, l, i, h, h' => by
    rw [at_leaf] at h h'
    rw [h] at h'
    injection h' with h'; injection h' with _ _ _ _ h5; rw [h5]
  | .leaf n, .fork c a x y, l, i, h, h' => by
    rw [at_leaf] at h; rw [at_fork] at h'
    rw [h] at h'
    have := h'.1
    injection this with this; injection this with _ _ h3 _ _; omega
  | .fork c a x y, .leaf n, l, i, h, h' => by
    rw [at_leaf] at h'; rw [at_fork] at h
    rw [h'] at h
    have := h.1
    injection this with this; injection this with _ _ h3 _ _; omega
  | .fork c a x y, .fork c' a' x' y', l, i, h, h' => by
    rw [at_fork] at h h'
    obtain ⟨h1, h2, h3⟩ := h
    obtain ⟨k1, k2, k3⟩ := h'
    obtain rfl := at_unique h2 k2
    obtain rfl := at_unique h3 k3
    rw [h1] at k1
    injection k1 with k1; injection k1 with e1 e2 _ _ _
    rw [e1, e2]
theorem at_full {b : B} {l : List Nd} (h : At l 0 b) (hc : b.count = l.length) : l = b.nodes 0 := by
  obtain ⟨rest, h⟩ := h
  rw [List.drop_zero] at h
  have : rest = [] := by
    have := congrArg List.length h
    rw [List.length_append, nodes_len] at this
    exact List.eq_nil_of_length_eq_zero (by omega)
  rw [h, this, List.append_nil]
theorem at_nodes (b : B) : At (b.nodes 0) 0 b := ⟨[], by simp⟩
theorem size_pos {dim : Int} : ∀ {b : B}, b.ok dim → 1 ≤ b.size
  | .leaf n, h => h
  | .fork c a l r, h => by have := size_pos h.2.1; have := size_pos h.2.2; simp only [B.size]; omega
theorem count_le {dim : Int} : ∀ {b : B}, b.ok dim → (b.count : Int) + 1 ≤ 2 * b.size
  | .leaf n, h => by have : (1 : Int) ≤ n := h; simp only [B.count, B.size]; omega
  | .fork c a l r, h => by have := count_le h.2.1; have := count_le h.2.2; simp only [B.count, B.size]; omega
/-- the node of a place tells its tree's size -/
theorem at_size {l : List Nd} {i : Nat} : ∀ {b : B}, At l i b → ∃ x, l[i]? = some x ∧ x.size = b.size
  | .leaf n, h => ⟨_, at_leaf.1 h, rfl⟩
  | .fork c a x y, h => ⟨_, (at_fork.1 h).1, rfl⟩
/-- each place within a tree's nodes has a tree of its own -/
theorem sub_at {dim : Int} {l : List Nd} : ∀ {b : B} {i j : Nat}, At l i b → b.ok dim → i ≤ j → j < i + b.count → ∃ b', At l j b' ∧ b'.ok dim ∧ b'.size ≤ b.size ∧ b'.high ≤ b.high ∧ j + b'.count ≤ i + b.count
  | .leaf n, i, j, h, ho, h1, h2 => by
    obtain rfl : j = i := by simp only [B.count] at h2; omega
    exact ⟨_, h, ho, Int.le_refl _, Nat.le_refl _, Nat.le_refl _⟩
  | .fork c a x y, i, j, h, ho, h1, h2 => by
    rcases Nat.eq_or_lt_of_le h1 with rfl | h1
    · exact ⟨_, h, ho, Int.le_refl _, Nat.le_refl _, Nat.le_refl _⟩
    · obtain ⟨_, hx, hy⟩ := at_fork.1 h
      have px := size_pos ho.2.1
      have py := size_pos ho.2.2
      simp only [B.count] at h2
      by_cases hj : j < i + 1 + x.count
      · obtain ⟨b', k1, k2, k3, k4, k5⟩ := sub_at hx ho.2.1 h1 hj
        exact ⟨b', k1, k2, by simp only [B.size]; omega, by simp only [B.high]; omega, by simp only [B.count]; omega⟩
      · obtain ⟨b', k1, k2, k3, k4, k5⟩ := sub_at (j := j) hy ho.2.2 (by omega) (by omega)
        exact ⟨b', k1, k2, by simp only [B.size]; omega, by simp only [B.high]; omega, by simp only [B.count]; omega⟩
/-- how many doublings reach a number, up to 64 -/
def lg (n : Int) : Nat := if n ≤ 1 then 0 else if n ≤ 2 then 1 else if n ≤ 4 then 2 else if n ≤ 8 then 3 else if n ≤ 16 then 4 else if n ≤ 32 then 5 else 6
def IsT (dim : Int) (l : List Nd) : Prop := 1 ≤ dim ∧ dim ≤ 8 ∧ ∃ b, At l 0 b ∧ b.count = l.length ∧ b.ok dim ∧ b.size ≤ 64 ∧ b.high ≤ lg b.size
open Classical in
noncomputable def isTB (dim : Int) (l : List Nd) : Bool := decide (IsT dim l)
theorem isTB_true {dim : Int} {l : List Nd} : isTB dim l = true ↔ IsT dim l := by unfold isTB; simp
theorem isTB_false {dim : Int} {l : List Nd} : isTB dim l = false ↔ ¬ IsT dim l := by unfold isTB; simp
end Go.Proofs.YtmmgfelifmdnbaaDoor.ShpM
