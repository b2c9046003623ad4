/- The callers of walk: what a round keeps (one box holds a slice that grows). -/
import Derived.Test.YtmmgfelifmdnbaaDoorItrW
namespace Go.Proofs.YtmmgfelifmdnbaaDoor.ItrK
set_option linter.unusedVariables false
open Go.RowKit Go.Shelf Go.WideElems Base SeqM ShpM ShpV ShpW ShpD ShpT ShpI ShpJ ItrD ItrW

/-- the caller's own blocks: those of S, and the row of the slice in the box -/
def Cbo (S : Nat → Prop) (ob f : Nat) (W : World) (k : Nat) : Prop := S k ∨ ∃ v, W.cell? ⟨ob, f, none⟩ = some v ∧ v.ownBlock = some k
def Wfo (S : Nat → Prop) (ob f : Nat) (W : World) : Prop := ob < W.heap.size ∧ (∀ k, S k → k < W.heap.size) ∧ ∀ v k, W.cell? ⟨ob, f, none⟩ = some v → v.ownBlock = some k → k < W.heap.size
section
variable {S : Nat → Prop} {ob f : Nat}
theorem cb_cell {W W' : World} (h : Below W.heap.size W W') (ho : ob < W.heap.size) : W'.cell? ⟨ob, f, none⟩ = W.cell? ⟨ob, f, none⟩ := h.cell ho
theorem cb_x (W W' : World) (h : Wfo S ob f W) (hb : Below W.heap.size W W') : Wfo S ob f W' :=
  ⟨Nat.lt_of_lt_of_le h.1 hb.size, fun k hk => Nat.lt_of_lt_of_le (h.2.1 k hk) hb.size, fun v k hc hk => Nat.lt_of_lt_of_le (h.2.2 v k ((cb_cell hb h.1) ▸ hc) hk) hb.size⟩
theorem cb_a (W : World) (o : Obj) (h : Wfo S ob f W) : Wfo S ob f (W.alloc o) := cb_x _ _ h (below_a1 _ _)
theorem cb_s (W : World) (k : Nat) (h : Wfo S ob f W) (hk : Cbo S ob f W k) : k < W.heap.size := hk.elim (h.2.1 k) fun ⟨v, hc, hv⟩ => h.2.2 v k hc hv
theorem cb_b (W : World) (o : Obj) (k : Nat) (h : Wfo S ob f W) (hk : Cbo S ob f (W.alloc o) k) : Cbo S ob f W k :=
  hk.elim .inl fun ⟨v, hc, hv⟩ => .inr ⟨v, (cb_cell (below_a1 W o) h.1) ▸ hc, hv⟩
theorem kp_b {n₀ : Nat} {w : World} (hn : n₀ ≤ w.heap.size) (ho : ob < w.heap.size) (W : World) (l : Nat) (o o' : Obj) (hl : w.heap.size ≤ l) (h : W.heap[l]? = some o) (hc : o.isCells = false) (hw : o.isWalk = false) :
    Kp n₀ (Cbo S ob f) (Wfo S ob f) W (W.putObj l o') := by
  have hcell : (W.putObj l o').cell? ⟨ob, f, none⟩ = W.cell? ⟨ob, f, none⟩ := World.cell?_of_block (World.putObj_heap_other (by show ob ≠ l; omega))
  have hsz : (W.putObj l o').heap.size = W.heap.size := by simp [World.putObj]
  refine ⟨belowK_b hn W l o o' hl h hc hw, fun k cs t fz hk hcb => ?_, fun hwf => ?_⟩
  · have hne : k ≠ l := fun e => by subst e; rw [h] at hk; cases hk; cases hc
    refine ⟨World.putObj_heap_other hne, fun hh => hcb (hh.elim .inl fun ⟨v, hv, hv'⟩ => .inr ⟨v, hcell ▸ hv, hv'⟩)⟩
  · exact ⟨by rw [hsz]; exact hwf.1, fun k hk => by rw [hsz]; exact hwf.2.1 k hk, fun v k hv hk => by rw [hsz]; exact hwf.2.2 v k (hcell ▸ hv) hk⟩
theorem kp_of {n₀ : Nat} {W W' : World} {v v' : Value} (hb : Below n₀ W W') (ho : S ob) (hold : W.cell? ⟨ob, f, none⟩ = some v) (hk : ∀ k, k < W.heap.size → ¬ S k → v.ownBlock ≠ some k → W'.heap[k]? = W.heap[k]?)
    (hnew : W'.cell? ⟨ob, f, none⟩ = some v') (hv : ∀ g, v'.ownBlock = some g → (v.ownBlock = some g ∨ W.heap.size ≤ g) ∧ g < W'.heap.size) : Kp n₀ (Cbo S ob f) (Wfo S ob f) W W' := by
  refine ⟨hb, fun k cs t fz hkc hcb => ?_, fun hwf => ⟨Nat.lt_of_lt_of_le hwf.1 hb.size, fun k hs => Nat.lt_of_lt_of_le (hwf.2.1 k hs) hb.size, fun u k hu hk => ?_⟩⟩
  · have hlt := (Array.getElem?_eq_some_iff.1 hkc).1
    have h1 : ¬ S k := fun h => hcb (.inl h)
    have h2 : v.ownBlock ≠ some k := fun h => hcb (.inr ⟨v, hold, h⟩)
    refine ⟨hk k hlt h1 h2, fun hh => hh.elim h1 fun ⟨u, hu, hg⟩ => ?_⟩
    rw [hnew] at hu
    obtain rfl := Option.some.inj hu
    rcases (hv k hg).1 with h | h
    · exact h2 h
    · omega
  · rw [hnew] at hu
    obtain rfl := Option.some.inj hu
    exact (hv k hk).2
theorem wf_box {t : TypeId} {W : World} {v : Value} (h : Boxed W ob t v) (hv : ∀ k, v.ownBlock = some k → k < W.heap.size) : Wfo (fun k => k = ob) ob 0 W :=
  ⟨h.lt, fun k hk => by rw [hk]; exact h.lt, fun u k hu hk => by rw [h.cell] at hu; obtain rfl := Option.some.inj hu; exact hv k hk⟩
/-- the box is written, nothing else is -/
theorem kp_set {n₀ t : Nat} {W : World} {v v' : Value} (hn : n₀ ≤ ob) (hB : Boxed W ob t v) (h0 : v.ownBlock = none) (h1 : v'.ownBlock = none) : Kp n₀ (Cbo (fun k => k = ob) ob 0) (Wfo (fun k => k = ob) ob 0) W (W.setCell ⟨ob, 0, none⟩ v') :=
  kp_of ((Below.refl n₀ W).setCell (p := ⟨ob, 0, none⟩) hn v') rfl hB.cell (fun k hk hs _ => Below.heap_setCell _ _ _ k hs) (hB.set v').cell (fun g hg => by rw [h1] at hg; cases hg)
theorem kp_refl {n₀ : Nat} {Cb : World → Nat → Prop} {Wf : World → Prop} (W : World) : Kp n₀ Cb Wf W W := ⟨Below.refl _ _, fun _ _ _ _ _ h => ⟨rfl, h⟩, id⟩
theorem kp_new {n₀ : Nat} {W : World} (o : Obj) (h : n₀ ≤ W.heap.size) (hw : Wfo S ob f W) : Kp n₀ (Cbo S ob f) (Wfo S ob f) W (W.alloc o) := kp_alloc o h (fun k => cb_b W o k hw) (cb_a W o)
/-- 'out = append(out, x)' in a round: the box holds a longer row -/
theorem kp_app {n₀ n m t e size : Nat} {W w1 : World} {v v' : Value} {xs ys : List Value} {tmp : Obj} (hv : Boxed W ob t v) (hte : t ≠ e) (hrow : W.ownsRow n₀ e size v n xs) (hn₀ : n₀ ≤ W.heap.size) (hB : n₀ ≤ ob)
    (hown' : w1.ownsRow n₀ e size v' m ys) (hgrow : (W.alloc tmp).grownBy w1 v.ownBlock) (hat : ∀ g, v'.ownBlock = some g → v.ownBlock = some g ∨ W.heap.size ≤ g) :
    Kp n₀ (Cbo (fun k => k = ob) ob 0) (Wfo (fun k => k = ob) ob 0) W (w1.setCell ⟨ob, 0, none⟩ v') := by
  obtain ⟨hv1, hv2, hr2, hk2, hb2⟩ := hv.appended hte hrow hn₀ hB hown' hgrow
  refine kp_of hb2 rfl hv.cell (fun k hk hs hne => ?_) hv2.cell (fun g hg => ⟨hat g hg, ?_⟩)
  · rw [Below.heap_setCell _ _ _ k hs, hgrow.block k (by simp; omega) (fun e' => hne e'.symm), Below.heap_alloc W _ k hk]
  · exact (own_typ hr2 g hg).2.2
end
/-- 's = append(s, x...)' at a plain list in a fence: where the new row lies -/
theorem listIn {F : Fence} {fd : Nat} {P : Program} {ops : Array Oper} {rest : List Oper} {o : Oper} {a : Act} {Q : Exit → Act → World → Prop} {w : World} (hgd : o.guard = none) (s x : Operand) (t : TypeId)
    (ho : o.op = .call { callee := .builtin .append, args := #[s, x], argTypes := #[t, t] })
    {e : TypeId} {z : Value} {size bytes : Nat} (E : Elt P t e z size bytes) (base : Nat) (v : Value) (n m c : Nat) (ad : Addr) (xs news : List Value) (hs : a.eval s = v)
    (hown : w.ownsRow base e size v n xs) (hx : a.eval x = .slice (some ad) m c) (hl : news.length = m * size) (hnews : ∀ j u, news[j]? = some u → w.cell? (ad.add j) = some u) (h1 : ∀ u ∈ news, u.oneCell' = true) (hm : 0 < m)
    (hn : n + m ≤ 1073741824) (hbase : base ≤ w.heap.size) (H : Nat) (hH : w.heap.size = H)
    (h : ∀ g cap w', w'.ownsRow base e size (.slice (some ⟨g, 0, none⟩) (n + m) cap) (n + m) (xs ++ news) → w.grownBy w' v.ownBlock → (v.ownBlock = some g ∨ g = H) → g < w'.heap.size → wpListIn F fd P ops Q rest (a.put o.dst (.slice (some ⟨g, 0, none⟩) (n + m) cap)) w') :
    wpListIn F fd P ops Q (o :: rest) a w := by
  obtain ⟨ht, h0, hby, i, hi, hz, hsz, hbs, hzs⟩ := E
  refine wpListIn_plain hgd fun K hK' => ?_
  obtain ⟨g, cap, w', hrun, r1, r2, r3, r4⟩ := run_append_lies (P := P) w t o.type base e i z size bytes ht hi hz hsz hbs hzs h0 v n xs hown ad m c news hl hnews h1 hm (by unfold maxLen; omega) (by
    have h2 : (n + m) * bytes ≤ 1073741824 * 131072 := Nat.mul_le_mul hn hby
    omega) hbase H hH
  unfold Oper.wpIn
  refine ⟨?_, ?_⟩
  · simp [Oper.about, ho, resolve, Target.leads, Sem.run_pure]
  · rw [Oper.semAt_plain F _ _ (by rw [ho]; intro c hc'; cases hc')]
    simp [execOp, ho, resolve, invoke, builtin, hs, hx, hrun, Result.andThen]
    exact hK' _ _ (h g cap w' r1 r2 r3 r4)
/-- what comes of a walk, as a list -/
noncomputable def vsOf (dim : Int) (ls : List Nd) : List Vis := open Classical in if h : ∃ b, IsT dim ls ∧ At ls 0 b then visits (Classical.choose h) 0 (-1) 0 else []
theorem comes_eq {dim : Int} {ls : List Nd} {ys : List Vis} (h : ItrW.Comes dim ls ys) : ys = vsOf dim ls := by
  unfold vsOf
  rcases h with ⟨b, ht, hat, rfl⟩ | ⟨hn, rfl⟩
  · have hex : ∃ b, IsT dim ls ∧ At ls 0 b := ⟨b, ht, hat⟩
    rw [dif_pos hex, at_unique (Classical.choose_spec hex).2 hat]
  · rw [dif_neg (fun ⟨b, h, _⟩ => hn h)]
theorem vsOf_tree {dim : Int} {ls : List Nd} {b : B} (ht : IsT dim ls) (hat : At ls 0 b) : vsOf dim ls = visits b 0 (-1) 0 := (comes_eq (.inl ⟨b, ht, hat, rfl⟩)).symm
theorem vsOf_none {dim : Int} {ls : List Nd} (ht : ¬ IsT dim ls) : vsOf dim ls = [] := (comes_eq (.inr ⟨ht, rfl⟩)).symm
end Go.Proofs.YtmmgfelifmdnbaaDoor.ItrK
