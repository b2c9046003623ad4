/- Rows of one's own of vectors of one number each: what grows, what stays; two of them side by side. -/
import Derived.Test.YtodiipkedhfncaaGreatDoorVecW
namespace Go.Proofs.YtodiipkedhfncaaGreatDoor.OneW
set_option linter.unusedVariables false
open Go.RowKit Base SeqM VecW

section
variable {P : Program}
/-- 's = append(s, x...)', both rows of one's own, something is appended; and where the longer row lies -/
theorem listL {ops : Array Oper} {rest : List Oper} {o : Oper} {a : Act} {Q : Exit → Act → World → Prop} {w : World} (hgd : o.guard = none) (s x : Operand) (t : TypeId)
    (ho : o.op = .call { callee := .builtin .append, args := #[s, x], argTypes := #[t, t] })
    {e : TypeId} {z : Value} {size bytes : Nat} (E : Elt P t e z size bytes) (base base2 : Nat) (v v2 : Value) (n m : Nat) (xs news : List Value) (hs : a.eval s = v)
    (hown : w.ownsRow base e size v n xs) (hx : a.eval x = v2) (hown2 : w.ownsRow base2 e size v2 m news) (h1 : ∀ u ∈ news, u.oneCell' = true) (hm : 0 < m)
    (hn : n + m ≤ 1073741824) (hbase : base ≤ w.heap.size)
    (h : ∀ v' w', w'.ownsRow base e size v' (n + m) (xs ++ news) → w.grownBy w' v.ownBlock → (v'.ownBlock = v.ownBlock ∨ v'.ownBlock = some w.heap.size) → wpList P ops Q rest (a.put o.dst v') w') :
    wpList P ops Q (o :: rest) a w := by
  obtain ⟨ht, h0, hby, i, hi, hz, hsz, hbs, hzs⟩ := E
  obtain ⟨g, cap, hv, hg, hlt⟩ := hown2.form hm
  have hr := (Rd.of_own (by rw [hv] at hown2; exact hown2)).2 hm
  obtain ⟨ad, e1, _, _, hc⟩ := hr
  obtain rfl := Option.some.inj e1
  refine wpList_append_lies _ hgd s x t ho base e i z size bytes ht hi hz hsz hbs hzs h0 v n xs hs hown _ m cap news (by rw [hx, hv]) hown2.1 hc h1 hm (by unfold maxLen; omega) ?_ hbase w.heap.size rfl ?_
  · have h2 : (n + m) * bytes ≤ 1073741824 * 131072 := Nat.mul_le_mul hn hby
    omega
  · intro g cp w' own hg hor hlt
    refine h _ _ own hg ?_
    rcases hor with e2 | e2
    · exact .inl (by rw [e2]; rfl)
    · exact .inr (by rw [← e2]; rfl)
end
def s1V (g : Nat) : Value := .slice (some ⟨g, 0, none⟩) 1 1
/-- a row of one's own of vectors, each of one number -/
def V1 (w : World) (base : Nat) (v : Value) (xs : List Int) : Prop := ∃ gs : List Nat, gs.length = xs.length ∧ w.ownsRow base 30 1 v xs.length (gs.map s1V) ∧
  ∀ (i g : Nat) (x : Int), gs[i]? = some g → xs[i]? = some x → w.heap[g]? = some (.cells #[.int .i64 x] 3 (0, 0))
theorem V1.nil (w : World) (base : Nat) : V1 w base (.slice none 0 0) [] := ⟨[], rfl, World.ownsRow_nil _ _ _ _, fun i g x h _ => by simp at h⟩
theorem V1.below {w w' : World} {base : Nat} {v : Value} {xs : List Int} (h : V1 w base v xs) (hb : Below w.heap.size w w') : V1 w' base v xs := by
  obtain ⟨gs, h1, h2, h3⟩ := h
  exact ⟨gs, h1, own_below h2 hb, fun i g x hg hx => (hb.block g (Array.getElem?_eq_some_iff.1 (h3 i g x hg hx)).1).trans (h3 i g x hg hx)⟩
/-- the world in which a vector of one more number, and a row of it alone, lie -/
def w2 (w : World) (x : Int) : World := (w.alloc (.cells #[.int .i64 x] 3)).alloc (.cells #[.slice (some ⟨w.heap.size, 0, none⟩) 1 1] 30)
theorem w2_below (w : World) (x : Int) : Below w.heap.size w (w2 w x) := below_a2 w _ _
theorem w2_size (w : World) (x : Int) : (w2 w x).heap.size = w.heap.size + 1 + 1 := by simp [w2]
theorem w2_vec (w : World) (x : Int) : (w2 w x).heap[w.heap.size]? = some (.cells #[.int .i64 x] 3 (0, 0)) := by
  unfold w2
  rw [Below.heap_alloc _ _ _ (by simp)]
  exact heap_alloc_new w _
/-- the row grows by a vector of one number -/
theorem V1.grow {w w' : World} {base : Nat} {v v' : Value} {xs : List Int} {x : Int} (h : V1 w base v xs) (hown : w'.ownsRow base 30 1 v' (xs.length + 1) (((Classical.choose h).map s1V) ++ [s1V w.heap.size])) (hg : (w2 w x).grownBy w' v.ownBlock) :
    V1 w' base v' (xs ++ [x]) := by
  obtain ⟨h1, h2, h3⟩ := Classical.choose_spec h
  generalize Classical.choose h = gs at *
  have hneq : (3 : TypeId) ≠ 30 := by decide
  have h2' := own_below h2 (w2_below w x)
  refine ⟨gs ++ [w.heap.size], by simp [h1], by simpa using hown, fun i g y hgi hyi => ?_⟩
  by_cases hi : i < gs.length
  · rw [List.getElem?_append_left hi] at hgi
    rw [List.getElem?_append_left (by omega)] at hyi
    have h9 := h3 i g y hgi hyi
    have hgl := (Array.getElem?_eq_some_iff.1 h9).1
    have h10 := ((w2_below w x).block g hgl).trans h9
    rw [grown_keep h2' hg hneq (by rw [w2_size]; omega) ⟨_, _, h10⟩]
    exact h10
  · have hi2 : i = gs.length := by
      have := (List.getElem?_eq_some_iff.1 hgi).1
      simp at this
      omega
    subst hi2
    rw [List.getElem?_append_right (Nat.le_refl _)] at hgi
    rw [h1, List.getElem?_append_right (Nat.le_refl _)] at hyi
    simp at hgi hyi
    subst hgi
    subst hyi
    have h10 := w2_vec w x
    rw [grown_keep h2' hg hneq (by rw [w2_size]; omega) ⟨_, _, h10⟩]
    exact h10
/-- another row stays, as one grows -/
theorem V1.stay {w w' : World} {base base' n : Nat} {v u : Value} {ys : List Int} {cs : List Value} (h : V1 w base u ys) (hv : w.ownsRow base' 30 1 v n cs) (hg : w.grownBy w' v.ownBlock) (hne : ∀ g, u.ownBlock = some g → v.ownBlock ≠ some g) : V1 w' base u ys := by
  obtain ⟨gs, h1, h2, h3⟩ := h
  have hneq : (3 : TypeId) ≠ 30 := by decide
  refine ⟨gs, h1, ⟨h2.1, ?_⟩, fun i g x hgi hxi => ?_⟩
  · rcases h2.2 with h0 | ⟨g, cap, cur, hu, hb, hc, hr⟩
    · exact .inl h0
    · refine .inr ⟨g, cap, cur, hu, hb, ?_, hr⟩
      rw [← hc]
      exact hg.block g (Array.getElem?_eq_some_iff.1 hc).1 (fun e => hne g (by rw [hu]; rfl) e.symm)
  · have h9 := h3 i g x hgi hxi
    rw [grown_keep hv hg hneq (Array.getElem?_eq_some_iff.1 h9).1 ⟨_, _, h9⟩]
    exact h9
theorem V1.own_lt {w : World} {base : Nat} {u : Value} {ys : List Int} (h : V1 w base u ys) : ∀ g, u.ownBlock = some g → g < w.heap.size := by
  obtain ⟨gs, h1, h2, h3⟩ := h
  intro g hg
  exact (own_typ h2 g hg).2.2
/-- as vectors -/
theorem V1.vecs {w : World} {base : Nat} {v : Value} {xs : List Int} (h : V1 w base v xs) : Vecs w 0 w.heap.size v (xs.map fun x => [x]) := by
  obtain ⟨gs, h1, h2, h3⟩ := h
  have e2 : (List.zip (gs.map s1V) (xs.map fun x => [x])).map (·.2) = xs.map fun x => [x] := by
    rw [List.map_snd_zip (by simp [h1])]
  have e1 : (List.zip (gs.map s1V) (xs.map fun x => [x])).map (·.1) = gs.map s1V := by
    rw [List.map_fst_zip (by simp [h1])]
  refine ⟨List.zip (gs.map s1V) (xs.map fun x => [x]), e2, ?_, fun r hr => ?_⟩
  · have e3 : (List.zip (gs.map s1V) (xs.map fun x => [x])).flatMap vcC = gs.map s1V := by
      refine Eq.trans ?_ e1
      clear e1 e2
      generalize List.zip (gs.map s1V) (xs.map fun x => [x]) = z
      induction z with
      | nil => rfl
      | cons a r ih => rw [List.flatMap_cons, List.map_cons, ih]; rfl
    have e4 : (List.zip (gs.map s1V) (xs.map fun x => [x])).length = xs.length := by simp [h1]
    exact (Seq.of_own (e := 30) (by rw [e3, e4]; exact h2)).more (Nat.zero_le _) (Nat.le_refl _)
  · obtain ⟨i, hi⟩ := List.getElem?_of_mem hr
    rw [List.getElem?_zip_eq_some] at hi
    obtain ⟨ha, hb⟩ := hi
    rw [List.getElem?_map] at ha hb
    obtain ⟨g, hg, eg⟩ := Option.map_eq_some_iff.1 ha
    obtain ⟨x, hx, ex⟩ := Option.map_eq_some_iff.1 hb
    have h9 := h3 i g x hg hx
    rw [← eg, ← ex]
    refine Seq.of_own (f := inC) (l := [x]) (e := 3) (base := 0) ⟨rfl, .inr ⟨g, 1, #[.int .i64 x], rfl, Nat.zero_le _, h9, Nat.le_refl _, by unfold maxLen; omega, rfl, rfl⟩⟩
end Go.Proofs.YtodiipkedhfncaaGreatDoor.OneW
