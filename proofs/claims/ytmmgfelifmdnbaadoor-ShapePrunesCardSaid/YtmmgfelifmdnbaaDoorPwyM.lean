/- The way of a vector through a pruned tree, plainly. -/
import Derived.Test.YtmmgfelifmdnbaaDoorLefM
import Derived.Test.YtmmgfelifmdnbaaDoorPruM
namespace Go.Proofs.YtmmgfelifmdnbaaDoor.PwyM
set_option linter.unusedVariables false
open ShpM ShpD ItrD LefM PruM

/-- the trees on the way -/
noncomputable def subs : B → List Int → List B
  | .leaf n, _ => [.leaf n]
  | .fork c a l r, x => .fork c a l r :: (if (leftR c a x).1 = true then subs l x else subs r x)
theorem subs_pos : ∀ (b : B) (x : List Int), 1 ≤ (subs b x).length
  | .leaf n, x => Nat.le_refl _
  | .fork c a l r, x => by simp only [subs, List.length_cons]; omega
theorem subs_len : ∀ (b : B) (i : Nat) (x : List Int), (wayOf b i x).length = (subs b x).length
  | .leaf n, i, x => rfl
  | .fork c a l r, i, x => by
    simp only [wayOf, subs, List.length_cons]
    split
    · rw [subs_len l]
    · rw [subs_len r]
theorem way_at : ∀ (b : B) (i : Nat) (x : List Int) (ls : List Nd) (j p : Nat), At ls i b → (wayOf b i x)[j]? = some p → ∃ s, (subs b x)[j]? = some s ∧ At ls p s
  | .leaf n, i, x, ls, j, p, h, hp => by
    cases j with
    | zero => obtain rfl : i = p := by simpa [wayOf] using hp
              exact ⟨_, rfl, h⟩
    | succ j => simp [wayOf] at hp
  | .fork c a l r, i, x, ls, j, p, h, hp => by
    cases j with
    | zero => obtain rfl : i = p := by simpa [wayOf] using hp
              exact ⟨_, rfl, h⟩
    | succ j =>
      obtain ⟨h0, hl, hr⟩ := at_fork.1 h
      simp only [wayOf, List.getElem?_cons_succ] at hp
      simp only [subs, List.getElem?_cons_succ]
      split at hp
      · rename_i hg
        rw [if_pos hg]
        exact way_at l _ x ls j p hl hp
      · rename_i hg
        rw [if_neg hg]
        exact way_at r _ x ls j p hr hp
theorem subs_pru : ∀ (b : B) (k : Nat) (x : List Int), (subs (pru b k) x).length = min (subs b x).length (k + 1) ∧ ∀ (j : Nat) (s : B), (subs (pru b k) x)[j]? = some s → ∃ s', (subs b x)[j]? = some s' ∧ s.size = s'.size
  | .leaf n, k, x => by
    refine ⟨by simp only [pru, subs, List.length_cons, List.length_nil]; omega, fun j s h => ⟨s, h, rfl⟩⟩
  | .fork c a l r, 0, x => by
    have h1 := subs_pos (.fork c a l r) x
    refine ⟨by simp only [pru, subs, List.length_cons, List.length_nil]; omega, fun j s h => ?_⟩
    cases j with
    | zero =>
      obtain rfl : B.leaf (l.size + r.size) = s := by simpa [pru, subs] using h
      exact ⟨_, rfl, rfl⟩
    | succ j => simp [pru, subs] at h
  | .fork c a l r, k + 1, x => by
    obtain ⟨l1, l2⟩ := subs_pru l k x
    obtain ⟨r1, r2⟩ := subs_pru r k x
    refine ⟨?_, fun j s h => ?_⟩
    · simp only [pru, subs, List.length_cons]
      split
      · rw [l1]; omega
      · rw [r1]; omega
    · cases j with
      | zero =>
        have e : B.fork c a (pru l k) (pru r k) = s := by simpa [pru, subs] using h
        subst e
        exact ⟨_, rfl, by simp only [B.size, pru_size]⟩
      | succ j =>
        simp only [pru, subs, List.getElem?_cons_succ] at h
        simp only [subs, List.getElem?_cons_succ]
        split at h
        · rename_i hg
          rw [if_pos hg]
          exact l2 j s h
        · rename_i hg
          rw [if_neg hg]
          exact r2 j s h
/-- at the last node of the way through the pruned tree the sizes are equal -/
theorem way_size {b : B} {k : Nat} {x : List Int} {lb lp : List Nd} (hb : At lb 0 b) (hp : At lp 0 (pru b k)) {j p q : Nat} (hq : (wayOf (pru b k) 0 x)[j]? = some q) (hpb : (wayOf b 0 x)[j]? = some p) : ∃ n m : Nd, lp[q]? = some n ∧ lb[p]? = some m ∧ n.size = m.size := by
  obtain ⟨s, hs, hat⟩ := way_at (pru b k) 0 x lp j q hp hq
  obtain ⟨s', hs', hat'⟩ := way_at b 0 x lb j p hb hpb
  obtain ⟨s2, h2, e2⟩ := (subs_pru b k x).2 j s hs
  rw [hs'] at h2
  obtain rfl := Option.some.inj h2
  obtain ⟨n, hn, en⟩ := at_size hat
  obtain ⟨m, hm, em⟩ := at_size hat'
  exact ⟨n, m, hn, hm, by rw [en, em, e2]⟩
theorem way_lens (b : B) (k i i' : Nat) (x : List Int) : (wayOf (pru b k) i x).length = min (wayOf b i' x).length (k + 1) := by rw [subs_len, subs_len, (subs_pru b k x).1]
end Go.Proofs.YtmmgfelifmdnbaaDoor.PwyM
