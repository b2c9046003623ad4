/- Who names a node, and how deep it is: plainly. -/
import Derived.Test.YtmmgfelifmdnbaaDoorItrG
namespace Go.Proofs.YtmmgfelifmdnbaaDoor.UpM
set_option linter.unusedVariables false
open ShpM ItrD ItrK ItrF ItrG

def parAt : B → Nat → Int → Nat → Int
  | .leaf _, _, p, _ => p
  | .fork _ _ l r, i, p, j => if j = i then p else if j < i + 1 + l.count then parAt l (i + 1) i j else parAt r (i + 1 + l.count) i j
def depAt : B → Nat → Int → Nat → Int
  | .leaf _, _, d, _ => d
  | .fork _ _ l r, i, d, j => if j = i then d else if j < i + 1 + l.count then depAt l (i + 1) (d + 1) j else depAt r (i + 1 + l.count) (d + 1) j
theorem vis_get : ∀ (b : B) (i : Nat) (p d : Int) (k : Nat), k < b.count → (visits b i p d)[k]? = some (((i + k : Nat) : Int), parAt b i p (i + k), depAt b i d (i + k))
  | .leaf n, i, p, d, k, h => by
    simp only [B.count] at h
    obtain rfl : k = 0 := by omega
    simp [visits, parAt, depAt]
  | .fork c a l r, i, p, d, k, h => by
    have cl := count_pos l
    have cr := count_pos r
    simp only [B.count] at h
    simp only [visits, parAt, depAt]
    cases k with
    | zero => simp
    | succ k =>
      rw [List.getElem?_cons_succ, if_neg (show ¬ i + (k + 1) = i by omega), if_neg (show ¬ i + (k + 1) = i by omega)]
      by_cases hk : k < l.count
      · rw [List.getElem?_append_left (by rw [visits_len]; exact hk), vis_get l _ _ _ _ hk, if_pos (show i + (k + 1) < i + 1 + l.count by omega), if_pos (show i + (k + 1) < i + 1 + l.count by omega)]
        rw [show i + 1 + k = i + (k + 1) by omega]
      · rw [List.getElem?_append_right (by rw [visits_len]; omega), visits_len, vis_get r _ _ _ _ (by omega), if_neg (show ¬ i + (k + 1) < i + 1 + l.count by omega), if_neg (show ¬ i + (k + 1) < i + 1 + l.count by omega)]
        rw [show i + 1 + l.count + (k - l.count) = i + (k + 1) by omega]
theorem par_root (b : B) (i : Nat) (p : Int) : parAt b i p i = p := by cases b <;> simp [parAt]
theorem dep_root (b : B) (i : Nat) (d : Int) : depAt b i d i = d := by cases b <;> simp [depAt]
/-- a node below the root: its parent is a fork ahead of it, that names it -/
theorem par_in : ∀ (b : B) (ls : List Nd) (i : Nat) (p d : Int) (j : Nat), At ls i b → i < j → j < i + b.count →
    ∃ (k : Nat) (nd : Nd), parAt b i p j = (k : Int) ∧ i ≤ k ∧ k < j ∧ ls[k]? = some nd ∧ 0 < nd.left ∧ (nd.left = (j : Int) ∨ nd.right = (j : Int)) ∧ depAt b i d j = depAt b i d k + 1
  | .leaf n, ls, i, p, d, j, h, h1, h2 => by simp only [B.count] at h2; omega
  | .fork c a l r, ls, i, p, d, j, h, h1, h2 => by
    obtain ⟨h0, hl, hr⟩ := at_fork.1 h
    simp only [B.count] at h2
    have cl := count_pos l
    have cr := count_pos r
    simp only [parAt, depAt]
    rw [if_neg (show ¬ j = i by omega), if_neg (show ¬ j = i by omega)]
    by_cases hj : j < i + 1 + l.count
    · rw [if_pos hj, if_pos hj]
      by_cases hj1 : j = i + 1
      · subst hj1
        refine ⟨i, _, par_root _ _ _, Nat.le_refl _, by omega, h0, by dsimp only; omega, .inl rfl, ?_⟩
        rw [dep_root, if_pos rfl]
      · obtain ⟨k, nd, e1, e2, e3, e4, e5, e6, e7⟩ := par_in l ls (i + 1) i (d + 1) j hl (by omega) hj
        refine ⟨k, nd, e1, by omega, e3, e4, e5, e6, ?_⟩
        rw [e7, if_neg (by omega), if_pos (by omega)]
    · rw [if_neg hj, if_neg hj]
      by_cases hj1 : j = i + 1 + l.count
      · subst hj1
        refine ⟨i, _, par_root _ _ _, Nat.le_refl _, by omega, h0, by dsimp only; omega, .inr rfl, ?_⟩
        rw [dep_root, if_pos rfl]
      · obtain ⟨k, nd, e1, e2, e3, e4, e5, e6, e7⟩ := par_in r ls (i + 1 + l.count) i (d + 1) j hr (by omega) (by omega)
        refine ⟨k, nd, e1, by omega, e3, e4, e5, e6, ?_⟩
        rw [e7, if_neg (by omega), if_neg (by omega)]
/-- no other one names it -/
theorem par_one : ∀ (b : B) (ls : List Nd) (i : Nat) (p : Int) (j k : Nat) (nd : Nd), At ls i b → i ≤ k → k < i + b.count → ls[k]? = some nd → 0 < nd.left → (nd.left = (j : Int) ∨ nd.right = (j : Int)) →
    i < j ∧ j < i + b.count ∧ parAt b i p j = (k : Int)
  | .leaf n, ls, i, p, j, k, nd, h, h1, h2, h3, h4, h5 => by
    simp only [B.count] at h2
    obtain rfl : k = i := by omega
    rw [at_leaf.1 h] at h3
    obtain rfl := Option.some.inj h3
    simp at h4
  | .fork c a l r, ls, i, p, j, k, nd, h, h1, h2, h3, h4, h5 => by
    obtain ⟨h0, hl, hr⟩ := at_fork.1 h
    simp only [B.count] at h2 ⊢
    have cl := count_pos l
    have cr := count_pos r
    simp only [parAt]
    by_cases hk : k = i
    · subst hk
      rw [h0] at h3
      obtain rfl := Option.some.inj h3
      dsimp only at h5
      rcases h5 with h5 | h5
      · obtain rfl : j = k + 1 := by omega
        rw [if_neg (by omega), if_pos (by omega), par_root]
        exact ⟨by omega, by omega, rfl⟩
      · obtain rfl : j = k + 1 + l.count := by omega
        rw [if_neg (by omega), if_neg (by omega), par_root]
        exact ⟨by omega, by omega, rfl⟩
    · by_cases hkl : k < i + 1 + l.count
      · obtain ⟨e1, e2, e3⟩ := par_one l ls (i + 1) i j k nd hl (by omega) (by omega) h3 h4 h5
        rw [if_neg (by omega), if_pos (by omega)]
        exact ⟨by omega, by omega, e3⟩
      · obtain ⟨e1, e2, e3⟩ := par_one r ls (i + 1 + l.count) i j k nd hr (by omega) (by omega) h3 h4 h5
        rw [if_neg (by omega), if_neg (by omega)]
        exact ⟨by omega, by omega, e3⟩
/-! ### The lists -/
def parL (b : B) (n : Nat) : List Int := (List.range n).map fun j => parAt b 0 (-1) j
def depL (b : B) (n : Nat) : List Int := (List.range n).map fun j => depAt b 0 0 j
theorem vis_list (b : B) : visits b 0 (-1) 0 = (List.range b.count).map fun (j : Nat) => (((j : Int), parAt b 0 (-1) j, depAt b 0 0 j) : Vis) := by
  apply List.ext_getElem?
  intro k
  by_cases h : k < b.count
  · rw [vis_get _ _ _ _ _ h, List.getElem?_map, List.getElem?_range h]; simp
  · rw [List.getElem?_eq_none (by rw [visits_len]; omega), List.getElem?_eq_none (by simp; omega)]
theorem par_eq {dim : Int} {ls : List Nd} {b : B} (ht : IsT dim ls) (hat : At ls 0 b) : colParents (vsOf dim ls) = parL b b.count := by
  rw [vsOf_tree ht hat, vis_list]; simp [colParents, parL]
theorem dep_eq {dim : Int} {ls : List Nd} {b : B} (ht : IsT dim ls) (hat : At ls 0 b) : colDepths (vsOf dim ls) = depL b b.count := by
  rw [vsOf_tree ht hat, vis_list]; simp [colDepths, depL]
theorem most_eq (l : List Vis) : mostOf l = (l.map (·.2.2)).foldl (fun m x => max m x) 0 := by
  unfold mostOf
  rw [List.foldl_map]
/-- the places of the leaves -/
def leafL (ls : List Nd) (n : Nat) : List Int := ((List.range n).filter fun (j : Nat) => match ls[j]? with | some x => decide (x.left = 0) | none => false).map fun (j : Nat) => (j : Int)
theorem leaf_eq {dim : Int} {ls : List Nd} {b : B} (ht : IsT dim ls) (hat : At ls 0 b) : colL ls (vsOf dim ls) = leafL ls b.count := by
  rw [vsOf_tree ht hat, vis_list]
  unfold colL leafL
  rw [List.filter_map, List.map_map]
  congr 1
theorem leaf_next {ls : List Nd} {k : Nat} {x : Nd} (h : ls[k]? = some x) : leafL ls (k + 1) = if x.left = 0 then leafL ls k ++ [(k : Int)] else leafL ls k := by
  unfold leafL
  rw [List.range_succ, List.filter_append, List.map_append]
  by_cases h0 : x.left = 0
  · rw [if_pos h0]
    simp [h, h0]
  · rw [if_neg h0]
    simp [h, h0]
theorem range_next (f : Nat → Int) (k : Nat) : (List.range (k + 1)).map f = (List.range k).map f ++ [f k] := by
  rw [List.range_succ]; simp
/-- who names node j, of the first k ones -/
def ofK (P : Int) (k : Nat) : Int := if 0 ≤ P ∧ P < (k : Int) then P else -1
theorem ofK_hit {b : B} {ls : List Nd} {j k : Nat} {nd : Nd} (hat : At ls 0 b) (hk : k < b.count) (h : ls[k]? = some nd) (h4 : 0 < nd.left) (h5 : nd.left = (j : Int) ∨ nd.right = (j : Int)) : ofK (parAt b 0 (-1) j) (k + 1) = (k : Int) := by
  obtain ⟨_, _, e⟩ := par_one b ls 0 (-1) j k nd hat (by omega) (by omega) h h4 h5
  unfold ofK
  rw [e, if_pos (by omega)]
theorem ofK_miss {b : B} {ls : List Nd} {j k : Nat} {nd : Nd} (hat : At ls 0 b) (hj : j < b.count) (h : ls[k]? = some nd) (h5 : ¬ (0 < nd.left ∧ (nd.left = (j : Int) ∨ nd.right = (j : Int)))) : ofK (parAt b 0 (-1) j) (k + 1) = ofK (parAt b 0 (-1) j) k := by
  by_cases hj0 : j = 0
  · subst hj0
    rw [par_root]; rfl
  · obtain ⟨k', nd', e1, _, _, e4, e5, e6, _⟩ := par_in b ls 0 (-1) 0 j hat (by omega) (by omega)
    have hne : k' ≠ k := fun e => by subst e; rw [h] at e4; obtain rfl := Option.some.inj e4; exact h5 ⟨e5, e6⟩
    unfold ofK
    rw [e1]
    by_cases hk : (k' : Int) < (k : Int)
    · rw [if_pos (by omega), if_pos (by omega)]
    · rw [if_neg (by omega), if_neg (by omega)]
theorem ofK_zero (P : Int) : ofK P 0 = -1 := by unfold ofK; rw [if_neg (by omega)]
theorem ofK_all {b : B} {ls : List Nd} {j : Nat} (hat : At ls 0 b) (hj : j < b.count) : ofK (parAt b 0 (-1) j) b.count = parAt b 0 (-1) j := by
  by_cases hj0 : j = 0
  · subst hj0
    rw [par_root]; rfl
  · obtain ⟨k', nd', e1, _, e3, e4, e5, e6, _⟩ := par_in b ls 0 (-1) 0 j hat (by omega) (by omega)
    unfold ofK
    rw [e1, if_pos (by omega)]
theorem dep_le : ∀ (b : B) (i : Nat) (d : Int) (j : Nat), d ≤ depAt b i d j ∧ depAt b i d j ≤ d + b.high
  | .leaf n, i, d, j => by simp [depAt, B.high]
  | .fork c a l r, i, d, j => by
    simp only [depAt, B.high]
    have := dep_le l (i + 1) (d + 1) j
    have := dep_le r (i + 1 + l.count) (d + 1) j
    split
    · omega
    · split <;> omega
end Go.Proofs.YtmmgfelifmdnbaaDoor.UpM
