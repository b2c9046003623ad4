/- shape.Prune: what its loop holds, and what each of its stores does to that. -/
import Derived.Test.YtmmgfelifmdnbaaDoorRndI
namespace Go.Proofs.YtmmgfelifmdnbaaDoor.PruW
set_option linter.unusedVariables false
open Go.RowKit Go.Shelf Go.WideElems Base SeqM ShpM ShpV ShpW ShpD ShpT ShpI ShpJ ItrD ItrW ItrK ItrF ItrG PruM

theorem mkIn {F : Fence} {fd : Nat} {P : Program} {ops : Array Oper} {rest : List Oper} {o : Oper} {a : Act} {Q : Exit → Act → World → Prop} (w : World) (hgd : o.guard = none) (l c : Operand) (t : TypeId) (ho : o.op = Op.makeSlice t l c)
    {e : TypeId} {bytes : Nat} (E : Elt P t e (.int .i64 0) 1 bytes) (n : Nat) (hl : a.eval l = .int .i64 n) (hc : a.eval c = .int .i64 n) (hn : n ≤ 1073741)
    (h : wpListIn F fd P ops Q rest (a.put o.dst (.slice (some ⟨w.heap.size, 0, none⟩) n n)) (w.alloc (.cells (((List.replicate n (0 : Int)).map (Value.int .i64)).toArray) e))) :
    wpListIn F fd P ops Q (o :: rest) a w := by
  obtain ⟨ht, h0, hby, i, hi, hz, hsz, hbs, hzs⟩ := E
  refine wpListIn_plain hgd fun K hK' => ?_
  have hrun := run_makeSlice (P := P) w t e i (.int .i64 0) ht hi hz .i64 .i64 (n : Int) (n : Int) (by omega) (by omega) (by rw [hsz]; omega) (by
    have h2 : i.bytes * n ≤ 131072 * n := Nat.mul_le_mul_right _ (by omega)
    have h3 : (i.bytes : Int) * (n : Int) = ((i.bytes * n : Nat) : Int) := by simp
    rw [h3]; omega) (by omega)
  have hcs : madeCells (Value.int .i64 0).cells ((n : Int).toNat * i.size) = ((List.replicate n (0 : Int)).map (Value.int .i64)).toArray := by
    rw [hsz, Int.toNat_natCast, Nat.mul_one]
    have := toList_madeCells_one (Value.int .i64 0) n
    rw [show (Value.int .i64 0).cells = #[Value.int .i64 0] from rfl]
    apply Array.toList_inj.1
    rw [this]; simp
  rw [hcs, Int.toNat_natCast] at hrun
  unfold Oper.wpIn
  refine ⟨?_, ?_⟩
  · simp [Oper.about, ho]
  · rw [Oper.semAt_plain F _ _ (by rw [ho]; intro c hc'; cases hc')]
    simp [execOp, ho, hl, hc, hrun, Result.andThen]
    exact hK' _ _ (by simpa using h)
theorem below_a3 (w : World) (a b c : Obj) : Below w.heap.size w (((w.alloc a).alloc b).alloc c) := (below_a2 w a b).alloc (by simp; omega) c
/-- a row of numbers, all of a block -/
def RowI (W : World) (b : Nat) (l : List Int) : Prop := W.heap[b]? = some (.cells ((l.map (Value.int .i64)).toArray) 3 (0, 0))
/-- what the loop's boxes hold: b1 is where its own begin -/
def PX (w : World) (b1 m : Nat) (dim D : Int) (nv pv : Value) (rs : List (Value × Nd)) (pl : List Int) (W : World) : Prop :=
  Boxed2 W w.heap.size dim nv ∧ Boxed W (w.heap.size + 1) 3 (.int .i64 D) ∧ Boxed2 W (w.heap.size + 2) 0 (.slice none 0 0) ∧ Boxed2 W b1 dim pv ∧ RowI W (b1 + 1) pl ∧
    Boxed W (b1 + 2) 29 (.slice (some ⟨b1 + 1, 0, none⟩) m m) ∧ W.ownsRow b1 39 5 pv rs.length (rs.flatMap ndC) ∧ (∀ r ∈ rs, W.ownsRow (b1 + 2) 3 1 r.1 r.2.coef.length (r.2.coef.map (Value.int .i64))) ∧ Below w.heap.size w W
/-- what holds between two rounds: b1 is where the loop's own boxes begin -/
def PI (w : World) (b1 m : Nat) (dim D : Int) (nv : Value) (st : List Nd × List Int) (W : World) : Prop :=
  ∃ (pv : Value) (rs : List (Value × Nd)), Boxed2 W w.heap.size dim nv ∧ Boxed W (w.heap.size + 1) 3 (.int .i64 D) ∧ Boxed2 W (w.heap.size + 2) 0 (.slice none 0 0) ∧ Boxed2 W b1 dim pv ∧ RowI W (b1 + 1) st.2 ∧
    Boxed W (b1 + 2) 29 (.slice (some ⟨b1 + 1, 0, none⟩) m m) ∧ rs.map (·.2) = st.1 ∧ W.ownsRow b1 39 5 pv rs.length (rs.flatMap ndC) ∧ (∀ r ∈ rs, W.ownsRow (b1 + 2) 3 1 r.1 r.2.coef.length (r.2.coef.map (Value.int .i64))) ∧ Below w.heap.size w W
theorem PI.keep {w : World} {b1 m : Nat} {dim D : Int} {nv : Value} {st : List Nd × List Int} {W W' : World} (h : PI w b1 m dim D nv st W) (hk : ∀ (k : Nat) (cs : Array Value) (t : TypeId) (fz : Nat × Nat), W.heap[k]? = some (Obj.cells cs t fz) → W'.heap[k]? = some (Obj.cells cs t fz)) (hb : Below w.heap.size w W') : PI w b1 m dim D nv st W' := by
  obtain ⟨pv, rs, h1, h2, h3, h4, h5, h6, h7, h8, h9, _⟩ := h
  exact ⟨pv, rs, hk _ _ _ _ h1, hk _ _ _ _ h2, hk _ _ _ _ h3, hk _ _ _ _ h4, hk _ _ _ _ h5, hk _ _ _ _ h6, h7, own_keep h8 (fun k _ ⟨cs, fz, e⟩ => (hk _ _ _ _ e).trans e.symm), fun r hr => own_keep (h9 r hr) (fun k _ ⟨cs, fz, e⟩ => (hk _ _ _ _ e).trans e.symm), hb⟩
theorem PI.below {w : World} {b1 m : Nat} {dim D : Int} {nv : Value} {st : List Nd × List Int} {W W' : World} (h : PI w b1 m dim D nv st W) (hb : Below W.heap.size W W') : PI w b1 m dim D nv st W' :=
  h.keep (fun k cs t fz e => (hb.block k (Array.getElem?_eq_some_iff.1 e).1).trans e) (by
    obtain ⟨pv, rs, h1, _, _, _, _, _, _, _, _, h10⟩ := h
    exact h10.trans (hb.mono h10.size))
theorem pi_own {β : Type} {w : World} {b1 m : Nat} {dim D : Int} {nv : Value} (f : β → List Nd × List Int) {B : Nat} (hB : w.heap.size ≤ B) : OwnFrom B (fun x W => PI w b1 m dim D nv (f x) W) := fun x A A' row hs hg hr =>
  hs.keep (fun k cs t fz e => (grownBy_keeps_cells hg (fun r er => (hr r er).2) e rfl).trans e) (by
    obtain ⟨pv, rs, h1, _, _, _, _, _, _, _, _, h10⟩ := hs
    exact ownFrom_below (Nat.le_refl _) hB () A A' row h10 hg hr)
theorem pi_wf {w : World} {b1 m : Nat} {dim D : Int} {nv : Value} {st : List Nd × List Int} {W : World} (h : PI w b1 m dim D nv st W) : Wfo (fun k => k = b1 ∨ k = b1 + 1) b1 1 W := by
  obtain ⟨pv, rs, h1, h2, h3, h4, h5, h6, h7, h8, h9, h10⟩ := h
  have l4 := (Array.getElem?_eq_some_iff.1 h4).1
  have l5 := (Array.getElem?_eq_some_iff.1 h5).1
  exact ⟨l4, fun k hk => by rcases hk with rfl | rfl; exact l4; exact l5, fun v k hv hk => by rw [h4.cells.2] at hv; obtain rfl := Option.some.inj hv; exact (own_typ h8 k hk).2.2⟩
theorem own_keep_from {w w' : World} {base : Nat} {e : TypeId} {size n : Nat} {v : Value} {xs : List Value} (h : w.ownsRow base e size v n xs) (hk : ∀ k, base ≤ k → k < w.heap.size → Typ w k e → w'.heap[k]? = w.heap[k]?) : w'.ownsRow base e size v n xs := by
  refine ⟨h.1, ?_⟩
  rcases h.2 with h0 | ⟨g, cap, cur, hv, hg, hc, hr⟩
  · exact .inl h0
  · refine .inr ⟨g, cap, cur, hv, hg, ?_, hr⟩
    rw [← hc]
    obtain ⟨h1, _, h2⟩ := own_typ h g (by rw [hv]; rfl)
    exact hk g hg h2 h1
/-- all but the caller's own blocks is as it was -/
def Ch (b1 n0 : Nat) (ro : Option Nat) (W W' : World) : Prop := Below n0 W W' ∧ ∀ k, k < W.heap.size → k ≠ b1 → k ≠ b1 + 1 → ro ≠ some k → W'.heap[k]? = W.heap[k]?
theorem Ch.trans {b1 n0 : Nat} {ro : Option Nat} {A B C : World} (h : Ch b1 n0 ro A B) (h' : Ch b1 n0 ro B C) : Ch b1 n0 ro A C :=
  ⟨h.1.trans h'.1, fun k hk h1 h2 h3 => (h'.2 k (Nat.lt_of_lt_of_le hk h.1.size) h1 h2 h3).trans (h.2 k hk h1 h2 h3)⟩
theorem Ch.of_below {b1 n0 : Nat} {ro : Option Nat} {A B : World} (h : Below A.heap.size A B) (hn : n0 ≤ A.heap.size) : Ch b1 n0 ro A B := ⟨h.mono hn, fun k hk _ _ _ => h.block k hk⟩
theorem Ch.set {b1 n0 : Nat} {ro : Option Nat} {A : World} {a : Addr} (v : Value) (hn : n0 ≤ a.block) (h : a.block = b1 ∨ a.block = b1 + 1 ∨ ro = some a.block) : Ch b1 n0 ro A (A.setCell a v) :=
  ⟨(Below.refl _ _).setCell (p := a) hn v, fun k hk h1 h2 h3 => Below.heap_setCell _ _ _ k (fun e => by subst e; rcases h with h | h | h; exact h1 h; exact h2 h; exact h3 h)⟩
/-- a store into a fresh block -/
theorem Ch.own {b1 n0 s : Nat} {ro : Option Nat} {A B : World} (h : Ch b1 n0 ro A B) {a : Addr} (v : Value) (hs : A.heap.size ≤ a.block) (hn : n0 ≤ A.heap.size) : Ch b1 n0 ro A (B.setCell a v) :=
  ⟨h.1.setCell (p := a) (by omega) v, fun k hk h1 h2 h3 => (Below.heap_setCell _ _ _ k (by omega)).trans (h.2 k hk h1 h2 h3)⟩
theorem Ch.keeps {b1 n0 B : Nat} {ro : Option Nat} {W W' : World} (h : Ch b1 n0 ro W W') (h1 : ∃ cs t fz, W.heap[b1]? = some (Obj.cells cs t fz)) (h2 : ∃ cs t fz, W.heap[b1 + 1]? = some (Obj.cells cs t fz)) (h3 : ∀ g, ro = some g → ∃ cs t fz, W.heap[g]? = some (Obj.cells cs t fz)) : KeepsFrom B W W' :=
  ⟨h.1.size, fun k o _ hk ho => by
    refine (h.2 k (Array.getElem?_eq_some_iff.1 hk).1 (fun e => ?_) (fun e => ?_) (fun e => ?_)).trans hk
    · obtain ⟨cs, t, fz, e'⟩ := h1; rw [e] at hk; rw [hk] at e'; cases e'; cases ho
    · obtain ⟨cs, t, fz, e'⟩ := h2; rw [e] at hk; rw [hk] at e'; cases e'; cases ho
    · obtain ⟨cs, t, fz, e'⟩ := h3 k e; rw [hk] at e'; cases e'; cases ho⟩
theorem RowI.set {W : World} {b i : Nat} {l : List Int} (h : RowI W b l) (z : Int) : RowI (W.setCell ⟨b, i, none⟩ (.int .i64 z)) b (l.set i z) := by
  have := Go.heap_setCell_same W b i _ _ (Value.int .i64 z) h
  unfold RowI
  rw [this]
  simp
theorem RowI.cell {W : World} {b i : Nat} {l : List Int} {z : Int} (h : RowI W b l) (hi : l[i]? = some z) : W.cell? ⟨b, i, none⟩ = some (.int .i64 z) := cell_heap h (by simp [hi])
theorem RowI.frozen {W : World} {b i : Nat} {l : List Int} (h : RowI W b l) : W.frozen? ⟨b, i, none⟩ = false := by simp [World.frozen?, show W.heap[b]? = _ from h]
theorem PI.px {w : World} {b1 m : Nat} {dim D : Int} {nv : Value} {st : List Nd × List Int} {W : World} (h : PI w b1 m dim D nv st W) : ∃ pv rs, PX w b1 m dim D nv pv rs st.2 W ∧ rs.map (·.2) = st.1 := by
  obtain ⟨pv, rs, h1, h2, h3, h4, h5, h6, h7, h8, h9, h10⟩ := h
  exact ⟨pv, rs, ⟨h1, h2, h3, h4, h5, h6, h8, h9, h10⟩, h7⟩
theorem PX.pi {w : World} {b1 m : Nat} {dim D : Int} {nv pv : Value} {rs : List (Value × Nd)} {out : List Nd} {pl : List Int} {W : World} (h : PX w b1 m dim D nv pv rs pl W) (e : rs.map (·.2) = out) : PI w b1 m dim D nv (out, pl) W :=
  ⟨pv, rs, h.1, h.2.1, h.2.2.1, h.2.2.2.1, h.2.2.2.2.1, h.2.2.2.2.2.1, e, h.2.2.2.2.2.2.1, h.2.2.2.2.2.2.2.1, h.2.2.2.2.2.2.2.2⟩
theorem PX.below {w : World} {b1 m : Nat} {dim D : Int} {nv pv : Value} {rs : List (Value × Nd)} {pl : List Int} {W W' : World} (h : PX w b1 m dim D nv pv rs pl W) (hb : Below W.heap.size W W') : PX w b1 m dim D nv pv rs pl W' := by
  obtain ⟨h1, h2, h3, h4, h5, h6, h8, h9, h10⟩ := h
  have hk : ∀ (k : Nat) (cs : Array Value) (t : TypeId) (fz : Nat × Nat), W.heap[k]? = some (Obj.cells cs t fz) → W'.heap[k]? = some (Obj.cells cs t fz) := fun k cs t fz e => (hb.block k (Array.getElem?_eq_some_iff.1 e).1).trans e
  exact ⟨hk _ _ _ _ h1, hk _ _ _ _ h2, hk _ _ _ _ h3, hk _ _ _ _ h4, hk _ _ _ _ h5, hk _ _ _ _ h6, own_below h8 hb, fun r hr => own_below (h9 r hr) hb, h10.trans (hb.mono h10.size)⟩
theorem PX.place {w : World} {b1 m : Nat} {dim D : Int} {nv pv : Value} {rs : List (Value × Nd)} {pl : List Int} {W : World} (h : PX w b1 m dim D nv pv rs pl W) (i : Nat) (z : Int) (hb1 : w.heap.size + 2 < b1) : PX w b1 m dim D nv pv rs (pl.set i z) (W.setCell ⟨b1 + 1, i, none⟩ (.int .i64 z)) := by
  obtain ⟨h1, h2, h3, h4, h5, h6, h8, h9, h10⟩ := h
  have hk : ∀ k, k ≠ b1 + 1 → (W.setCell ⟨b1 + 1, i, none⟩ (.int .i64 z)).heap[k]? = W.heap[k]? := fun k hk => Below.heap_setCell _ _ _ k hk
  refine ⟨(hk _ (by omega)).trans h1, (hk _ (by omega)).trans h2, (hk _ (by omega)).trans h3, (hk _ (by omega)).trans h4, h5.set z, (hk _ (by omega)).trans h6, own_keep h8 (fun k _ hT => hk k fun e => ?_), fun r hr => own_keep_from (h9 r hr) (fun k h0 _ _ => hk k (by omega)), h10.setCell (p := ⟨b1 + 1, i, none⟩) (by simp; omega) _⟩
  subst e
  have := hT.eq ⟨_, _, h5⟩
  revert this
  decide
theorem ndC_set (rs : List (Value × Nd)) (z : Nat) (r : Int) : ∀ {x : Value × Nd}, rs[z]? = some x → (rs.flatMap ndC).set (z * 5 + 3) (.int .i64 r) = (rs.set z (x.1, setR x.2 r)).flatMap ndC := by
  induction rs generalizing z with
  | nil => intro x h; simp at h
  | cons y t ih =>
    intro x h
    cases z with
    | zero =>
      obtain rfl : y = x := by simpa using h
      simp [ndC, setR]
    | succ z =>
      have := ih z (x := x) (by simpa using h)
      rw [List.flatMap_cons, List.set_cons_succ, List.flatMap_cons, ← this, List.set_append_right _ _ (by rw [ndC_len]; omega), ndC_len]
      congr 2
      omega
theorem own_fix {W : World} {base g n cap : Nat} {rs : List (Value × Nd)} (h : W.ownsRow base 39 5 (.slice (some ⟨g, 0, none⟩) n cap) n (rs.flatMap ndC)) (z : Nat) (r : Int) {x : Value × Nd} (hx : rs[z]? = some x) (hn : rs.length = n) :
    (W.setCell ⟨g, z * 5 + 3, none⟩ (.int .i64 r)).ownsRow base 39 5 (.slice (some ⟨g, 0, none⟩) n cap) n ((rs.set z (x.1, setR x.2 r)).flatMap ndC) := by
  have hz := (List.getElem?_eq_some_iff.1 hx).1
  rcases h.2 with ⟨h0, _⟩ | ⟨g', cap', cur, hv, hg, hc, hk, hm, hs, ht⟩
  · cases h0
  · injection hv with e1 _ e3
    injection e1 with e1
    injection e1 with e1
    subst e1; subst e3
    have hset := Go.heap_setCell_same W g (z * 5 + 3) _ _ (Value.int .i64 r) hc
    refine ⟨by rw [flat_len ndC_len]; simp [hn], .inr ⟨g, cap, _, rfl, hg, hset, hk, hm, by simpa using hs, ?_⟩⟩
    rw [← ndC_set rs z r hx, ← ht]
    simp [List.take_set]
theorem PX.fix {w : World} {b1 m g n cap : Nat} {dim D : Int} {nv : Value} {pl : List Int} {W : World} {rs : List (Value × Nd)} (z : Nat) (r : Int) {x : Value × Nd}
    (h : PX w b1 m dim D nv (.slice (some ⟨g, 0, none⟩) n cap) rs pl W) (hn : rs.length = n) (hb1 : w.heap.size + 2 < b1) (hx : rs[z]? = some x) :
    PX w b1 m dim D nv (.slice (some ⟨g, 0, none⟩) n cap) (rs.set z (x.1, setR x.2 r)) pl (W.setCell ⟨g, z * 5 + 3, none⟩ (.int .i64 r)) := by
  obtain ⟨h1, h2, h3, h4, h5, h6, h8, h9, h10⟩ := h
  rw [hn] at h8
  obtain ⟨hT, hgb, hglt⟩ := own_typ h8 g rfl
  have hk : ∀ k, k ≠ g → (W.setCell ⟨g, z * 5 + 3, none⟩ (.int .i64 r)).heap[k]? = W.heap[k]? := fun k hk => Below.heap_setCell _ _ _ k hk
  have ne : ∀ {k : Nat} {t : TypeId}, Typ W k t → t ≠ 39 → k ≠ g := fun hty ht e => ht ((show Typ W g _ from e ▸ hty).eq hT)
  refine ⟨(hk _ (ne ⟨_, _, h1⟩ (by decide))).trans h1, (hk _ (ne ⟨_, _, h2⟩ (by decide))).trans h2, (hk _ (ne ⟨_, _, h3⟩ (by decide))).trans h3, (hk _ (ne ⟨_, _, h4⟩ (by decide))).trans h4, (hk _ (ne ⟨_, _, h5⟩ (by decide))).trans h5,
    (hk _ (ne ⟨_, _, h6⟩ (by decide))).trans h6, by rw [List.length_set, hn]; exact own_fix h8 z r hx hn, fun r' hr' => ?_, h10.setCell (p := ⟨g, z * 5 + 3, none⟩) (by simp; omega) _⟩
  have hr : ∃ y ∈ rs, y.1 = r'.1 ∧ y.2.coef = r'.2.coef := by
    rcases List.mem_or_eq_of_mem_set hr' with h | rfl
    · exact ⟨r', h, rfl, rfl⟩
    · exact ⟨x, List.mem_of_getElem? hx, rfl, rfl⟩
  obtain ⟨y, hy, e1, e2⟩ := hr
  rw [← e1, ← e2]
  exact own_keep (h9 y hy) (fun k _ hk' => hk k (ne hk' (by decide)))
/-- the row has grown by a node, the box holds it -/
theorem PX.app {w : World} {b1 m n cap' g : Nat} {dim D : Int} {nv pv : Value} {pl : List Int} {W w1 : World} {rs : List (Value × Nd)} {cs : Array Value} {cv : Value} {nd : Nd}
    (h : PX w b1 m dim D nv pv rs pl W) (hn : rs.length = n) (hb1 : w.heap.size + 2 < b1) (hcv : W.ownsRow (b1 + 2) 3 1 cv nd.coef.length (nd.coef.map (Value.int .i64)))
    (hown : w1.ownsRow b1 39 5 (.slice (some ⟨g, 0, none⟩) (n + 1) cap') (n + 1) (rs.flatMap ndC ++ ndC (cv, nd))) (hgrow : (W.alloc (.cells cs 39)).grownBy w1 pv.ownBlock) (hat : pv.ownBlock = some g ∨ W.heap.size ≤ g) :
    PX w b1 m dim D nv (.slice (some ⟨g, 0, none⟩) (n + 1) cap') (rs ++ [(cv, nd)]) pl (w1.setCell ⟨b1, 1, none⟩ (.slice (some ⟨g, 0, none⟩) (n + 1) cap')) ∧ Ch b1 w.heap.size pv.ownBlock W (w1.setCell ⟨b1, 1, none⟩ (.slice (some ⟨g, 0, none⟩) (n + 1) cap')) ∧
      w1.cell? ⟨b1, 1, none⟩ = some pv ∧ w1.frozen? ⟨b1, 1, none⟩ = false := by
  obtain ⟨h1, h2, h3, h4, h5, h6, h8, h9, h10⟩ := h
  rw [hn] at h8
  have l4 := (Array.getElem?_eq_some_iff.1 h4).1
  have hrow : ∀ k, pv.ownBlock = some k → Typ W k 39 ∧ b1 ≤ k ∧ k < W.heap.size := own_typ h8
  have hw1 : ∀ k, k < W.heap.size → pv.ownBlock ≠ some k → w1.heap[k]? = W.heap[k]? := fun k hk hne => (hgrow.block k (by simp; omega) (fun e => hne e.symm)).trans (Below.heap_alloc W _ k hk)
  have ne : ∀ {k : Nat} {t : TypeId}, Typ W k t → t ≠ 39 → pv.ownBlock ≠ some k := fun hk ht e => ht (hk.eq (hrow _ e).1)
  have hb1' := hw1 b1 l4 (ne ⟨_, _, h4⟩ (by decide))
  have h4' : Boxed2 w1 b1 dim pv := hb1'.trans h4
  have hk : ∀ k, k < W.heap.size → k ≠ b1 → pv.ownBlock ≠ some k → (w1.setCell ⟨b1, 1, none⟩ (.slice (some ⟨g, 0, none⟩) (n + 1) cap')).heap[k]? = W.heap[k]? := fun k hk h hne => (Below.heap_setCell _ _ _ k h).trans (hw1 k hk hne)
  have hbel : Below w.heap.size W (w1.setCell ⟨b1, 1, none⟩ (.slice (some ⟨g, 0, none⟩) (n + 1) cap')) := by
    refine (((Below.refl w.heap.size W).alloc h10.size _).grown hgrow (by have := h10.size; simp; omega) (fun k e => ?_)).setCell (p := ⟨b1, 1, none⟩) (by simp; omega) _
    have := (hrow k e).2.1
    omega
  refine ⟨⟨?_, ?_, ?_, ?_, ?_, ?_, ?_, ?_, h10.trans hbel⟩, ⟨hbel, fun k hlt e1 _ e3 => hk k hlt e1 e3⟩, h4'.cells.2, by simp [World.frozen?, show w1.heap[b1]? = _ from h4']⟩
  · exact (hk _ (Array.getElem?_eq_some_iff.1 h1).1 (by omega) (ne ⟨_, _, h1⟩ (by decide))).trans h1
  · exact (hk _ (Array.getElem?_eq_some_iff.1 h2).1 (by omega) (ne ⟨_, _, h2⟩ (by decide))).trans h2
  · exact (hk _ (Array.getElem?_eq_some_iff.1 h3).1 (by omega) (ne ⟨_, _, h3⟩ (by decide))).trans h3
  · have := Go.heap_setCell_same w1 b1 1 _ _ (.slice (some ⟨g, 0, none⟩) (n + 1) cap') h4'
    exact this.trans (by simp)
  · exact (hk _ (Array.getElem?_eq_some_iff.1 h5).1 (by omega) (ne ⟨_, _, h5⟩ (by decide))).trans h5
  · exact (hk _ (Array.getElem?_eq_some_iff.1 h6).1 (by omega) (ne ⟨_, _, h6⟩ (by decide))).trans h6
  · have e : (rs ++ [(cv, nd)]).length = n + 1 := by simp [hn]
    rw [e, List.flatMap_append]
    refine own_keep (by simpa using hown) (fun k _ hT => Below.heap_setCell _ _ _ k (fun e' => ?_))
    subst e'
    have := hT.eq ⟨_, _, h4'⟩
    revert this
    decide
  · intro r hr
    have hr' : W.ownsRow (b1 + 2) 3 1 r.1 r.2.coef.length (r.2.coef.map (Value.int .i64)) := by
      rcases List.mem_append.1 hr with h | h
      · exact h9 r h
      · obtain rfl := List.mem_singleton.1 h; exact hcv
    exact own_keep_from hr' (fun k h0 hlt hT => hk k hlt (by omega) (ne hT (by decide)))
theorem eltN : Elt Tryd.prog 22 39 (.agg #[.slice none 0 0, .int .i64 0, .int .i64 0, .int .i64 0, .int .i64 0]) 5 56 := elt_mk (z := .agg #[.slice none 0 0, .int .i64 0, .int .i64 0, .int .i64 0, .int .i64 0]) Tryd.underlying22 (by kernel_rfl) rfl (by omega) (by omega)
theorem ndC_one (cv : Value) (nd : Nd) (A : Option Addr) (n c : Nat) (h : cv = .slice A n c) : ∀ u ∈ ndC (cv, nd), u.oneCell' = true := by
  subst h
  intro u hu
  simp [ndC] at hu
  rcases hu with rfl | rfl | rfl | rfl | rfl <;> rfl
theorem PX.drewN {w : World} {b1 m : Nat} {dim D : Int} {nv pv : Value} {rs : List (Value × Nd)} {pl : List Int} {W : World} (h : PX w b1 m dim D nv pv rs pl W) (k : Nat) : PX w b1 m dim D nv pv rs pl (W.drewN k) := h.below (below_drewN (Below.refl _ _) k)
/-- a round's end -/
theorem round_end {w : World} {b1 m B : Nat} {dim D : Int} {nv pv pv' : Value} {rs rs' : List (Value × Nd)} {pl pl' : List Int} {out' : List Nd} {W W' : World} (h : PX w b1 m dim D nv pv rs pl W) (h' : PX w b1 m dim D nv pv' rs' pl' W')
    (hC : Ch b1 w.heap.size pv.ownBlock W W') (hat : ∀ g, pv'.ownBlock = some g → pv.ownBlock = some g ∨ W.heap.size ≤ g) (e : rs'.map (·.2) = out') :
    KeepsFrom B W W' ∧ Kp w.heap.size (Cbo (fun k => k = b1 ∨ k = b1 + 1) b1 1) (Wfo (fun k => k = b1 ∨ k = b1 + 1) b1 1) W W' ∧ PI w b1 m dim D nv (out', pl') W' := by
  refine ⟨hC.keeps ⟨_, _, _, h.2.2.2.1⟩ ⟨_, _, _, h.2.2.2.2.1⟩ (fun g hg => ?_), ?_, h'.pi e⟩
  · obtain ⟨⟨cs, fz, e⟩, _, _⟩ := own_typ h.2.2.2.2.2.2.1 g hg
    exact ⟨_, _, _, e⟩
  · refine kp_of hC.1 (.inl rfl) h.2.2.2.1.cells.2 (fun k hk hs hne => hC.2 k hk (fun e => hs (.inl e)) (fun e => hs (.inr e)) hne) h'.2.2.2.1.cells.2 (fun g hg => ⟨hat g hg, (own_typ h'.2.2.2.2.2.2.1 g hg).2.2⟩)
theorem stepP_eq {ls : List Nd} {D : Int} {out : List Nd} {pl : List Int} {x : Vis} {i : Nat} {nd : Nd} (hd : ¬ D < x.2.2) (hx : x.1 = (i : Int)) (h : ls[i]? = some nd) : stepP ls D (out, pl) x = (fixR ls out (pl.set i out.length) x ++ [newN nd x D out.length], pl.set i out.length) := by
  unfold stepP
  rw [if_neg hd]
  simp only [hx, Int.toNat_natCast, h]
theorem own_empty (W : World) (t : TypeId) : (W.alloc (.cells #[] t)).ownsRow W.heap.size t 1 (.slice (some ⟨W.heap.size, 0, none⟩) 0 0) 0 [] :=
  ⟨by simp, .inr ⟨W.heap.size, 0, #[], rfl, Nat.le_refl _, heap_alloc_new W _, Nat.le_refl _, by unfold maxLen; omega, by simp, by simp⟩⟩
/-- a store into another node's box -/
theorem PX.setM {w : World} {b1 m b o : Nat} {dim D : Int} {nv pv v : Value} {rs : List (Value × Nd)} {pl : List Int} {W : World} (h : PX w b1 m dim D nv pv rs pl W) (hT : Typ W b 39) (hne : pv.ownBlock ≠ some b) (hs : w.heap.size ≤ b) : PX w b1 m dim D nv pv rs pl (W.setCell ⟨b, o, none⟩ v) := by
  obtain ⟨h1, h2, h3, h4, h5, h6, h8, h9, h10⟩ := h
  have hk : ∀ k, k ≠ b → (W.setCell ⟨b, o, none⟩ v).heap[k]? = W.heap[k]? := fun k hk => Below.heap_setCell _ _ _ k hk
  have ne : ∀ {k : Nat} {t : TypeId}, Typ W k t → t ≠ 39 → k ≠ b := fun hty ht e => ht ((show Typ W b _ from e ▸ hty).eq hT)
  refine ⟨(hk _ (ne ⟨_, _, h1⟩ (by decide))).trans h1, (hk _ (ne ⟨_, _, h2⟩ (by decide))).trans h2, (hk _ (ne ⟨_, _, h3⟩ (by decide))).trans h3, (hk _ (ne ⟨_, _, h4⟩ (by decide))).trans h4, (hk _ (ne ⟨_, _, h5⟩ (by decide))).trans h5, (hk _ (ne ⟨_, _, h6⟩ (by decide))).trans h6, ?_, fun r hr => own_keep (h9 r hr) (fun k _ hk' => hk k (ne hk' (by decide))), h10.setCell (p := ⟨b, o, none⟩) hs v⟩
  refine ⟨h8.1, ?_⟩
  rcases h8.2 with h0 | ⟨g, cap, cur, hv, hg, hc, hr⟩
  · exact .inl h0
  · exact .inr ⟨g, cap, cur, hv, hg, (hk g (fun e => hne (by rw [hv]; simp [Value.ownBlock, e]))).trans hc, hr⟩
/-- the three stores into a fork's box -/
theorem forkBox {w : World} {b1 m b c' : Nat} {dim D a1 l1 sz : Int} {nv pv v' : Value} {rs : List (Value × Nd)} {pl : List Int} {Wm w1 : World} {xs : List Value}
    (h : PX w b1 m dim D nv pv rs pl Wm) (hM : Wm.heap[b]? = some (.cells #[.slice none 0 0, .int .i64 0, .int .i64 0, .int .i64 0, .int .i64 sz] 39 (0, 0))) (hne : pv.ownBlock ≠ some b) (hs : w.heap.size ≤ b) (hb1 : b1 + 2 ≤ Wm.heap.size)
    (hb : Below Wm.heap.size Wm w1) (hown : w1.ownsRow Wm.heap.size 3 1 v' c' xs) :
    PX w b1 m dim D nv pv rs pl (((w1.setCell ⟨b, 0, none⟩ v').setCell ⟨b, 1, none⟩ (.int .i64 a1)).setCell ⟨b, 2, none⟩ (.int .i64 l1)) ∧
      (((w1.setCell ⟨b, 0, none⟩ v').setCell ⟨b, 1, none⟩ (.int .i64 a1)).setCell ⟨b, 2, none⟩ (.int .i64 l1)).heap[b]? = some (.cells #[v', .int .i64 a1, .int .i64 l1, .int .i64 0, .int .i64 sz] 39 (0, 0)) ∧
      (((w1.setCell ⟨b, 0, none⟩ v').setCell ⟨b, 1, none⟩ (.int .i64 a1)).setCell ⟨b, 2, none⟩ (.int .i64 l1)).ownsRow (b1 + 2) 3 1 v' c' xs ∧
      (∀ k, k < Wm.heap.size → k ≠ b → (((w1.setCell ⟨b, 0, none⟩ v').setCell ⟨b, 1, none⟩ (.int .i64 a1)).setCell ⟨b, 2, none⟩ (.int .i64 l1)).heap[k]? = Wm.heap[k]?) ∧ Wm.heap.size ≤ (((w1.setCell ⟨b, 0, none⟩ v').setCell ⟨b, 1, none⟩ (.int .i64 a1)).setCell ⟨b, 2, none⟩ (.int .i64 l1)).heap.size ∧
      Below w.heap.size Wm (((w1.setCell ⟨b, 0, none⟩ v').setCell ⟨b, 1, none⟩ (.int .i64 a1)).setCell ⟨b, 2, none⟩ (.int .i64 l1)) := by
  have hlt := (Array.getElem?_eq_some_iff.1 hM).1
  have m1 : w1.heap[b]? = _ := (hb.block b hlt).trans hM
  have m2 := Go.heap_setCell_same w1 b 0 _ _ v' m1
  have m3 := Go.heap_setCell_same (w1.setCell ⟨b, 0, none⟩ v') b 1 _ _ (.int .i64 a1) m2
  have m4 := Go.heap_setCell_same ((w1.setCell ⟨b, 0, none⟩ v').setCell ⟨b, 1, none⟩ (.int .i64 a1)) b 2 _ _ (.int .i64 l1) m3
  have hk : ∀ k, k ≠ b → (((w1.setCell ⟨b, 0, none⟩ v').setCell ⟨b, 1, none⟩ (.int .i64 a1)).setCell ⟨b, 2, none⟩ (.int .i64 l1)).heap[k]? = w1.heap[k]? := fun k hk =>
    (Below.heap_setCell _ _ _ k hk).trans ((Below.heap_setCell _ _ _ k hk).trans (Below.heap_setCell _ _ _ k hk))
  refine ⟨(((h.below hb).setM ⟨_, _, m1⟩ hne hs).setM ⟨_, _, m2⟩ hne hs).setM ⟨_, _, m3⟩ hne hs, m4.trans (by simp), ?_, fun k hlt hne => (hk k hne).trans (hb.block k hlt), by simpa using hb.size, (((hb.mono (by omega)).setCell (p := ⟨b, 0, none⟩) hs _).setCell (p := ⟨b, 1, none⟩) hs _).setCell (p := ⟨b, 2, none⟩) hs _⟩
  have := own_keep (w' := ((w1.setCell ⟨b, 0, none⟩ v').setCell ⟨b, 1, none⟩ (.int .i64 a1)).setCell ⟨b, 2, none⟩ (.int .i64 l1)) hown (fun k _ hT => hk k fun e => by
    subst e
    have := hT.eq ⟨_, _, m1⟩
    revert this
    decide)
  refine ⟨this.1, ?_⟩
  rcases this.2 with h0 | ⟨g, cap, cur, hv, hg, hc, hr⟩
  · exact .inl h0
  · exact .inr ⟨g, cap, cur, hv, by omega, hc, hr⟩
theorem stepL {P : Program} {ops : Array Oper} {o : Oper} {a : Act} {K : Act → World → Prop} {Q : Exit → Act → World → Prop} {E' : Prop} {w : World} (hgd : o.guard = none) (s x : Operand) (t : TypeId)
    (ho : o.op = .call { callee := .builtin .append, args := #[s, x], argTypes := #[t, t] })
    {e : TypeId} {z : Value} {size bytes : Nat} (E : Elt P t e z size bytes) (base : Nat) (v : Value) (n m c : Nat) (ad : Addr) (xs news : List Value) (hs : a.eval s = v)
    (hown : w.ownsRow base e size v n xs) (hx : a.eval x = .slice (some ad) m c) (hl : news.length = m * size) (hnews : ∀ j u, news[j]? = some u → w.cell? (ad.add j) = some u) (h1 : ∀ u ∈ news, u.oneCell' = true) (hm : 0 < m)
    (hn : n + m ≤ 1073741824) (hbase : base ≤ w.heap.size)
    (h : ∀ g cap w', w'.ownsRow base e size (.slice (some ⟨g, 0, none⟩) (n + m) cap) (n + m) (xs ++ news) → w.grownBy w' v.ownBlock → (v.ownBlock = some g ∨ g = w.heap.size) → g < w'.heap.size → K (a.put o.dst (.slice (some ⟨g, 0, none⟩) (n + m) cap)) w') :
    if Region.wanted o (yielded ops a.tmps) = true then Oper.wp P o a w K Q else E' := by
  obtain ⟨ht, h0, hby, i, hi, hz, hsz, hbs, hzs⟩ := E
  exact step_append_lies w hgd s x t ho base e i z size bytes ht hi hz hsz hbs hzs h0 v n xs hs hown ad m c news hx hl hnews h1 hm (by unfold maxLen; omega) (by
    have h2 : (n + m) * bytes ≤ 1073741824 * 131072 := Nat.mul_le_mul hn hby
    omega) hbase w.heap.size rfl h
theorem fork_coef {dim : Int} {ls : List Nd} (hT : IsT dim ls) {i : Nat} {nd : Nd} (h : ls[i]? = some nd) (hl : 0 < nd.left) : 0 < nd.coef.length ∧ nd.coef.length ≤ 8 := by
  obtain ⟨h1, h2, b, hat, hc, hok, _, _⟩ := hT
  have hi := (List.getElem?_eq_some_iff.1 h).1
  obtain ⟨b', hb', ho', _, _, _⟩ := sub_at (j := i) hat hok (Nat.zero_le _) (by omega)
  cases b' with
  | leaf n =>
    rw [at_leaf, h] at hb'
    obtain rfl := Option.some.inj hb'
    simp at hl
  | fork c a l r =>
    have hb0 := (at_fork.1 hb').1
    rw [h] at hb0
    obtain rfl := Option.some.inj hb0
    obtain ⟨⟨⟨k1, k2, k3, _⟩, _⟩, _⟩ := ho'
    dsimp only
    omega
theorem seq_news {W : World} {lo B : Nat} {ad : Addr} {n cap : Nat} {l : List Int} (h : Seq 1 inC W lo B (.slice (some ad) n cap) l) : ∀ j u, (l.map (Value.int .i64))[j]? = some u → W.cell? (ad.add j) = some u := fun j u hu => by
  obtain ⟨A, cap', e, _, _, hr, _⟩ := h
  injection e with e1 _ _
  subst e1
  have hj : j < l.length := by have := (List.getElem?_eq_some_iff.1 hu).1; simpa using this
  obtain ⟨ad', x, e, _, _, hx, hc⟩ := rdI hr hj
  obtain rfl := Option.some.inj e
  rw [List.getElem?_map, hx] at hu
  rw [hc]
  exact hu
theorem fixR_ne {ls out : List Nd} {pl : List Int} {x : Vis} {j : Nat} {md : Nd} (hmd : ls[j]? = some md) (hxj : x.2.1 = (j : Int)) (he : md.right ≠ x.1) : fixR ls out pl x = out := by
  unfold fixR
  simp only [hxj, Int.toNat_natCast, hmd]
  rw [if_neg (fun h => he h.2)]
theorem fixR_eq {ls out : List Nd} {pl : List Int} {x : Vis} {j z : Nat} {md : Nd} {rs : List (Value × Nd)} {y : Value × Nd} (h7 : rs.map (·.2) = out) (hmd : ls[j]? = some md) (hxj : x.2.1 = (j : Int)) (he : md.right = x.1) (hz : pl[j]? = some (z : Int)) (hy : rs[z]? = some y) :
    (rs.set z (y.1, setR y.2 out.length)).map (·.2) = fixR ls out pl x := by
  have ho : out[z]? = some y.2 := by rw [← h7, List.getElem?_map, hy]; rfl
  unfold fixR
  simp only [hxj, Int.toNat_natCast, hmd, hz, Option.getD_some, ho]
  rw [if_pos ⟨by omega, he⟩, List.map_set, h7]
/-- the box of a visit and a node's box are no blocks of the row -/
theorem PX.row_ne {w : World} {b1 m n g cap : Nat} {dim D : Int} {nv : Value} {rs : List (Value × Nd)} {pl : List Int} {W : World} (h : PX w b1 m dim D nv (.slice (some ⟨g, 0, none⟩) n cap) rs pl W) : Typ W g 39 ∧ b1 ≤ g ∧ g < W.heap.size ∧ ∀ k, W.frozen? ⟨g, k, none⟩ = false := by
  obtain ⟨hT, h0, h1⟩ := own_typ h.2.2.2.2.2.2.1 g rfl
  refine ⟨hT, h0, h1, fun k => ?_⟩
  rcases h.2.2.2.2.2.2.1.2 with ⟨e, _⟩ | ⟨g', cap', cur, hv, hg, hc, _⟩
  · cases e
  · injection hv with e1 _ e3
    injection e1 with e1
    injection e1 with e1
    subst e1
    simp [World.frozen?, hc]
end Go.Proofs.YtmmgfelifmdnbaaDoor.PruW
