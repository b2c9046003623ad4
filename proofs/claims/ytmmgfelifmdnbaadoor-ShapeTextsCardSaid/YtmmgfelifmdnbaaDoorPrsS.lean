/- What the reader of a tree holds: the reader's block, the tree's box, its nodes. -/
import Derived.Test.YtmmgfelifmdnbaaDoorPrsM
import Derived.Test.YtmmgfelifmdnbaaDoorNumW
import Derived.Test.YtmmgfelifmdnbaaDoorPruW
namespace Go.Proofs.YtmmgfelifmdnbaaDoor.PrsS
set_option linter.unusedVariables false
open Go.RowKit Go.Shelf Base SeqM ShpM ShpT ItrD ItrG TxtM GlbS WrtM RdrW PrsM PruW

structure PT (w0 : World) (tb : Nat) (dim : Int) (nv : Value) (rs : List (Value × Nd)) (W : World) : Prop where
  box : Boxed2 W tb dim nv
  own : W.ownsRow w0.heap.size 39 5 nv rs.length (rs.flatMap ndC)
  coef : ∀ r ∈ rs, W.ownsRow w0.heap.size 3 1 r.1 r.2.coef.length (r.2.coef.map (Value.int .i64))
theorem PT.keep {w0 : World} {tb : Nat} {dim : Int} {nv : Value} {rs : List (Value × Nd)} {W W' : World} (h : PT w0 tb dim nv rs W)
    (hk : ∀ (k : Nat) (t : TypeId), Typ W k t → (t = 24 ∨ t = 39 ∨ t = 3) → W'.heap[k]? = W.heap[k]?) : PT w0 tb dim nv rs W' :=
  ⟨(hk _ _ ⟨_, _, h.box⟩ (.inl rfl)).trans h.box, own_keep h.own (fun k _ hT => hk k _ hT (.inr (.inl rfl))), fun r hr => own_keep (h.coef r hr) (fun k _ hT => hk k _ hT (.inr (.inr rfl)))⟩
theorem PT.below {w0 : World} {tb : Nat} {dim : Int} {nv : Value} {rs : List (Value × Nd)} {W W' : World} (h : PT w0 tb dim nv rs W) (hb : Below W.heap.size W W') : PT w0 tb dim nv rs W' :=
  h.keep fun k t ⟨cs, fz, e⟩ _ => hb.block k (Array.getElem?_eq_some_iff.1 e).1
/-- what a block of another type than the reader's leaves alone -/
theorem rd_keep {W W' : World} {rb : Nat} {s : List UInt8} {ok : Bool} (h : RAt W rb s ok) (hk : ∀ (k : Nat) (t : TypeId), Typ W k t → t = 77 → W'.heap[k]? = W.heap[k]?) : RAt W' rb s ok := (hk _ _ ⟨_, _, h⟩ rfl).trans h
structure PSt (w0 : World) (rb tb : Nat) (dim : Int) (s : List UInt8) (ok : Bool) (nv : Value) (rs : List (Value × Nd)) (W : World) : Prop where
  rd : RAt W rb s ok
  pt : PT w0 tb dim nv rs W
  low : Below w0.heap.size w0 W
theorem PSt.below {w0 : World} {rb tb : Nat} {dim : Int} {s : List UInt8} {ok : Bool} {nv : Value} {rs : List (Value × Nd)} {W W' : World} (h : PSt w0 rb tb dim s ok nv rs W) (hb : Below W.heap.size W W') : PSt w0 rb tb dim s ok nv rs W' :=
  ⟨h.rd.below hb, h.pt.below hb, bt hb h.low⟩
theorem PSt.read {w0 : World} {rb tb : Nat} {dim : Int} {s s' : List UInt8} {ok ok' : Bool} {nv : Value} {rs : List (Value × Nd)} {W W' : World} (h : PSt w0 rb tb dim s ok nv rs W) (hk : KR rb W W') (hr : RAt W' rb s' ok') (hrb : w0.heap.size ≤ rb) : PSt w0 rb tb dim s' ok' nv rs W' :=
  ⟨hr, h.pt.keep fun k t hT ht => hk.2 k (by obtain ⟨cs, fz, e⟩ := hT; exact (Array.getElem?_eq_some_iff.1 e).1) (fun e => by
    subst e
    have := hT.eq ⟨_, _, h.rd⟩
    subst this
    rcases ht with e | e | e <;> exact absurd e (by decide)), h.low.trans (hk.1.mono hrb)⟩
theorem PSt.box {w0 : World} {rb tb : Nat} {dim : Int} {s : List UInt8} {ok : Bool} {nv : Value} {rs : List (Value × Nd)} {W : World} (h : PSt w0 rb tb dim s ok nv rs W) : W.cell? ⟨tb, 0, none⟩ = some (.int .i64 dim) ∧ W.cell? ⟨tb, 1, none⟩ = some nv ∧ ∀ o, W.frozen? ⟨tb, o, none⟩ = false :=
  ⟨h.pt.box.cells.1, h.pt.box.cells.2, fun o => by simp [World.frozen?, show W.heap[tb]? = _ from h.pt.box]⟩
/-- the nodes have grown by one, the box holds them -/
theorem PSt.app {w0 : World} {rb tb : Nat} {dim : Int} {s : List UInt8} {ok : Bool} {nv : Value} {rs : List (Value × Nd)} {W w1 : World} {n : Nat} {v' : Value} {cv : Value} {nd : Nd} (h : PSt w0 rb tb dim s ok nv rs W) (hn : rs.length = n) (htb : w0.heap.size ≤ tb)
    (hcv : W.ownsRow w0.heap.size 3 1 cv nd.coef.length (nd.coef.map (Value.int .i64)))
    (hown : w1.ownsRow w0.heap.size 39 5 v' (n + 1) (rs.flatMap ndC ++ ndC (cv, nd))) (hgk : ∀ k, k < W.heap.size → nv.ownBlock ≠ some k → w1.heap[k]? = W.heap[k]?) (hgb : Below w0.heap.size W w1) :
    PSt w0 rb tb dim s ok v' (rs ++ [(cv, nd)]) (w1.setCell ⟨tb, 1, none⟩ v') ∧ w1.cell? ⟨tb, 1, none⟩ = some nv ∧ w1.frozen? ⟨tb, 1, none⟩ = false := by
  have hrow := own_typ h.pt.own
  have hW := h.low.size
  have hw1 : ∀ k t, Typ W k t → t ≠ 39 → w1.heap[k]? = W.heap[k]? := fun k t hT ht => by
    have hk : k < W.heap.size := by obtain ⟨cs', fz, e⟩ := hT; exact (Array.getElem?_eq_some_iff.1 e).1
    exact hgk k hk (fun e => ht (hT.eq (hrow k e).1))
  have hb1 : Boxed2 w1 tb dim nv := (hw1 _ _ ⟨_, _, h.pt.box⟩ (by decide)).trans h.pt.box
  have hset : ∀ k, k ≠ tb → (w1.setCell ⟨tb, 1, none⟩ v').heap[k]? = w1.heap[k]? := fun k hk => Below.heap_setCell _ _ _ k hk
  have hne : ∀ k t, Typ W k t → t ≠ 24 → k ≠ tb := fun k t hT ht e => ht ((show Typ W tb t from e ▸ hT).eq ⟨_, _, h.pt.box⟩)
  refine ⟨⟨?_, ⟨?_, ?_, ?_⟩, ?_⟩, hb1.cells.2, by simp [World.frozen?, show w1.heap[tb]? = _ from hb1]⟩
  · exact rd_keep h.rd fun k t hT ht => by subst ht; exact (hset k (hne k _ hT (by decide))).trans (hw1 k _ hT (by decide))
  · have := Go.heap_setCell_same w1 tb 1 _ _ v' hb1
    exact this.trans (by simp)
  · have e : (rs ++ [(cv, nd)]).length = n + 1 := by simp [hn]
    rw [e, List.flatMap_append]
    refine own_keep (by simpa using hown) (fun k _ hT => hset k fun e' => ?_)
    subst e'
    have := hT.eq ⟨_, _, hb1⟩
    revert this
    decide
  · intro r hr
    have hr' : W.ownsRow w0.heap.size 3 1 r.1 r.2.coef.length (r.2.coef.map (Value.int .i64)) := by
      rcases List.mem_append.1 hr with h' | h'
      · exact h.pt.coef r h'
      · obtain rfl := List.mem_singleton.1 h'; exact hcv
    exact own_keep hr' fun k _ hT => (hset k (hne k _ hT (by decide))).trans (hw1 k _ hT (by decide))
  · exact (h.low.trans hgb).setCell (p := ⟨tb, 1, none⟩) htb _
/-- a node's cell is stored into -/
theorem PSt.fix {w0 : World} {rb tb : Nat} {dim : Int} {s : List UInt8} {ok : Bool} {g n cap : Nat} {rs rs' : List (Value × Nd)} {W W' : World} (h : PSt w0 rb tb dim s ok (.slice (some ⟨g, 0, none⟩) n cap) rs W)
    (hk : ∀ k, k ≠ g → W'.heap[k]? = W.heap[k]?) (hb : Below w0.heap.size W W') (hown : W'.ownsRow w0.heap.size 39 5 (.slice (some ⟨g, 0, none⟩) n cap) rs'.length (rs'.flatMap ndC)) (hcf : ∀ r ∈ rs', ∃ r' ∈ rs, r'.1 = r.1 ∧ r'.2.coef = r.2.coef) :
    PSt w0 rb tb dim s ok (.slice (some ⟨g, 0, none⟩) n cap) rs' W' := by
  obtain ⟨hT, _, _⟩ := own_typ h.pt.own g rfl
  have ne : ∀ k t, Typ W k t → t ≠ 39 → k ≠ g := fun k t hk ht e => ht ((show Typ W g t from e ▸ hk).eq hT)
  refine ⟨rd_keep h.rd fun k t hk' ht => by subst ht; exact hk k (ne k _ hk' (by decide)), ⟨(hk _ (ne _ _ ⟨_, _, h.pt.box⟩ (by decide))).trans h.pt.box, hown, fun r hr => ?_⟩, h.low.trans hb⟩
  obtain ⟨r', hr', e1, e2⟩ := hcf r hr
  rw [← e1, ← e2]
  exact own_keep (h.pt.coef r' hr') fun k _ hk' => hk k (ne k _ hk' (by decide))
theorem ndC_setG (o : Nat) (ho : o < 5) (v : Value) (nd' : Nd) : ∀ (rs : List (Value × Nd)) (z : Nat) {x : Value × Nd}, rs[z]? = some x → (ndC x).set o v = ndC (x.1, nd') → (rs.flatMap ndC).set (z * 5 + o) v = (rs.set z (x.1, nd')).flatMap ndC
  | [], z, x, h, _ => by simp at h
  | y :: t, z, x, h, hx => by
    cases z with
    | zero =>
      obtain rfl : y = x := by simpa using h
      rw [List.flatMap_cons, List.set_cons_zero, List.flatMap_cons, ← hx, Nat.zero_mul, Nat.zero_add, List.set_append_left _ _ (by rw [ndC_len]; omega)]
    | succ z =>
      have := ndC_setG o ho v nd' t z (x := x) (by simpa using h) hx
      rw [List.flatMap_cons, List.set_cons_succ, List.flatMap_cons, ← this, List.set_append_right _ _ (by rw [ndC_len]; omega), ndC_len]
      congr 2
      omega
theorem own_setG {W : World} {base g n cap : Nat} {rs : List (Value × Nd)} (h : W.ownsRow base 39 5 (.slice (some ⟨g, 0, none⟩) n cap) n (rs.flatMap ndC)) (o : Nat) (ho : o < 5) (v : Value) (nd' : Nd) (z : Nat) {x : Value × Nd} (hx : rs[z]? = some x) (hn : rs.length = n) (he : (ndC x).set o v = ndC (x.1, nd')) :
    (W.setCell ⟨g, z * 5 + o, none⟩ v).ownsRow base 39 5 (.slice (some ⟨g, 0, none⟩) n cap) n ((rs.set z (x.1, nd')).flatMap ndC) := by
  rcases h.2 with ⟨h0, _⟩ | ⟨g', cap', cur, hv, hg, hc, hk, hm, hs, ht⟩
  · cases h0
  · injection hv with e1 _ e3
    injection e1 with e1
    injection e1 with e1
    subst e1; subst e3
    have hset := Go.heap_setCell_same W g (z * 5 + o) _ _ v hc
    refine ⟨by rw [flat_len ndC_len]; simp [hn], .inr ⟨g, cap, _, rfl, hg, hset, hk, hm, by simpa using hs, ?_⟩⟩
    rw [← ndC_setG o ho v nd' rs z hx he, ← ht]
    simp [List.take_set]
/-- what lies at a node's cell of the row -/
theorem own_cell {W : World} {base g n cap : Nat} {rs : List (Value × Nd)} (h : W.ownsRow base 39 5 (.slice (some ⟨g, 0, none⟩) n cap) n (rs.flatMap ndC)) {z : Nat} {x : Value × Nd} (hx : rs[z]? = some x) {o : Nat} {u : Value} (hu : (ndC x)[o]? = some u) :
    W.cell? ⟨g, z * 5 + o, none⟩ = some u := by
  have hf := flat_at ndC_len rs z x o u hx hu
  rcases h.2 with ⟨h0, _⟩ | ⟨g', cap', cur, hv, hg, hc, hk, hm, hs, ht⟩
  · cases h0
  · injection hv with e1 _ e3
    injection e1 with e1
    injection e1 with e1
    subst e1
    refine cell_heap hc ?_
    rw [← ht, List.getElem?_take] at hf
    split at hf
    · simpa using hf
    · cases hf
theorem PSt.set {w0 : World} {rb tb : Nat} {dim : Int} {s : List UInt8} {ok : Bool} {g n cap : Nat} {rs : List (Value × Nd)} {W : World} (h : PSt w0 rb tb dim s ok (.slice (some ⟨g, 0, none⟩) n cap) rs W) (hn : rs.length = n) (o : Nat) (ho : o < 5) (v : Value) (nd' : Nd) (z : Nat) {x : Value × Nd} (hx : rs[z]? = some x)
    (he : (ndC x).set o v = ndC (x.1, nd')) (hc : nd'.coef = x.2.coef) : PSt w0 rb tb dim s ok (.slice (some ⟨g, 0, none⟩) n cap) (rs.set z (x.1, nd')) (W.setCell ⟨g, z * 5 + o, none⟩ v) := by
  have hown := h.pt.own
  rw [hn] at hown
  obtain ⟨_, hg, _⟩ := own_typ hown g rfl
  refine h.fix (fun k hk => Below.heap_setCell _ _ _ k hk) ((Below.refl _ _).setCell (p := ⟨g, z * 5 + o, none⟩) hg v) ?_ (fun r hr => ?_)
  · rw [List.length_set, hn]
    exact own_setG hown o ho v nd' z hx hn he
  · rcases List.mem_or_eq_of_mem_set hr with h1 | rfl
    · exact ⟨r, h1, rfl, rfl⟩
    · exact ⟨x, List.mem_of_getElem? hx, rfl, hc.symm⟩
theorem own_free {W : World} {base g n cap : Nat} {xs : List Value} (h : W.ownsRow base 39 5 (.slice (some ⟨g, 0, none⟩) n cap) n xs) (o : Nat) : W.frozen? ⟨g, o, none⟩ = false := by
  rcases h.2 with ⟨h0, _⟩ | ⟨g', cap', cur, hv, hg, hc, _⟩
  · cases h0
  · injection hv with e1 _ e3
    injection e1 with e1
    injection e1 with e1
    subst e1
    simp [World.frozen?, hc]
end Go.Proofs.YtmmgfelifmdnbaaDoor.PrsS
