/- shape.Depths, Parents, Leaves: loops over walk that collect (printed by tools/mkitr.py). -/
import Derived.Test.YtmmgfelifmdnbaaDoorItrF
namespace Go.Proofs.YtmmgfelifmdnbaaDoor.ItrG
set_option linter.unusedVariables false
open Go.RowKit Go.Shelf Go.WideElems Base SeqM ShpM ShpV ShpW ShpD ShpT ShpI ShpJ ItrD ItrW ItrK ItrF

attribute [local go_sem] Oper.semAt_some

theorem eltI : Elt Tryd.prog 29 3 (.int .i64 0) 1 8 := elt_mk (z := .int .i64 0) Tryd.underlying29 (by kernel_rfl) rfl (by omega) (by omega)
theorem flat_inC (l : List Int) : l.flatMap inC = l.map (Value.int .i64) := by induction l with
  | nil => rfl
  | cons x r ih => simp [inC, ih]
def colDepths (l : List Vis) : List Int := l.map (·.2.2)
def colParents (l : List Vis) : List Int := l.map (·.2.1)
theorem comes_vs (dim : Int) (ls : List Nd) : ItrW.Comes dim ls (vsOf dim ls) := by
  by_cases ht : IsT dim ls
  · obtain ⟨_, _, b, hat, _⟩ := id ht
    exact .inl ⟨b, ht, hat, vsOf_tree ht hat⟩
  · exact .inr ⟨ht, vsOf_none ht⟩
theorem vs_len (dim : Int) (ls : List Nd) : (vsOf dim ls).length ≤ 127 := by
  by_cases ht : IsT dim ls
  · obtain ⟨_, _, b, hat, hc, _⟩ := id ht
    rw [vsOf_tree ht hat, visits_len, hc]
    exact (isT_len ht).2
  · rw [vsOf_none ht]; simp
/-- a visit's place holds a leaf -/
def isLf (ls : List Nd) (v : Vis) : Bool := match ls[v.1.toNat]? with | some x => decide (x.left = 0) | none => false
def colL (ls : List Nd) (l : List Vis) : List Int := (l.filter (isLf ls)).map (·.1)
theorem colL_le (ls : List Nd) (l : List Vis) : (colL ls l).length ≤ l.length := by unfold colL; rw [List.length_map]; exact List.length_filter_le _ _
theorem colL_hit (ls : List Nd) (l : List Vis) {x : Vis} {i : Nat} {nd : Nd} (hi : x.1 = (i : Int)) (h : ls[i]? = some nd) (h0 : nd.left = 0) : colL ls (l ++ [x]) = colL ls l ++ [(i : Int)] := by
  have : isLf ls x = true := by unfold isLf; rw [hi]; simp [h, h0]
  simp [colL, List.filter_append, this, hi]
theorem colL_miss (ls : List Nd) (l : List Vis) {x : Vis} {i : Nat} {nd : Nd} (hi : x.1 = (i : Int)) (h : ls[i]? = some nd) (h0 : ¬ nd.left = 0) : colL ls (l ++ [x]) = colL ls l := by
  have : isLf ls x = false := by unfold isLf; rw [hi]; simp [h, h0]
  simp [colL, List.filter_append, this]
theorem visits_place : ∀ (b : B) (ls : List Nd) (i : Nat) (p d : Int), At ls i b → ∀ x ∈ visits b i p d, ∃ (j : Nat) (nd : Nd), x.1 = (j : Int) ∧ ls[j]? = some nd
  | .leaf n, ls, i, p, d, h, x, hx => by
    rw [at_leaf] at h
    simp only [visits, List.mem_singleton] at hx
    subst hx
    exact ⟨i, _, rfl, h⟩
  | .fork c a l r, ls, i, p, d, h, x, hx => by
    rw [at_fork] at h
    obtain ⟨h0, h1, h2⟩ := h
    simp only [visits, List.mem_cons, List.mem_append] at hx
    rcases hx with rfl | hx | hx
    · exact ⟨i, _, rfl, h0⟩
    · exact visits_place l ls _ _ _ h1 x hx
    · exact visits_place r ls _ _ _ h2 x hx
theorem vs_place {dim : Int} {ls : List Nd} : ∀ x ∈ vsOf dim ls, ∃ (j : Nat) (nd : Nd), x.1 = (j : Int) ∧ ls[j]? = some nd := fun x hx => by
  rcases comes_vs dim ls with ⟨b, _, hat, e⟩ | ⟨_, e⟩
  · rw [e] at hx; exact visits_place b ls _ _ _ hat x hx
  · rw [e] at hx; simp at hx
/-- the box of a tree -/
def Boxed2 (W : World) (b : Nat) (dim : Int) (nv : Value) : Prop := W.heap[b]? = some (.cells #[.int .i64 dim, nv] 24 (0, 0))
theorem Boxed2.cells {W : World} {b : Nat} {dim : Int} {nv : Value} (h : Boxed2 W b dim nv) : W.cell? ⟨b, 0, none⟩ = some (.int .i64 dim) ∧ W.cell? ⟨b, 1, none⟩ = some nv := ⟨cell_heap h rfl, cell_heap h rfl⟩
theorem Boxed2.alloc {W : World} {b : Nat} {dim : Int} {nv : Value} (h : Boxed2 W b dim nv) (o : Obj) : Boxed2 (W.alloc o) b dim nv := (Below.heap_alloc W o b (Array.getElem?_eq_some_iff.1 h).1).trans h
theorem Boxed2.below {W W' : World} {B b : Nat} {dim : Int} {nv : Value} (h : Boxed2 W b dim nv) (hb : Below B W W') (hlt : b < B) : Boxed2 W' b dim nv := (hb.block b hlt).trans h
theorem boxed2_own {β : Type} (b : Nat) (dim : Int) (nv : Value) : Own (fun (_ : β) W => Boxed2 W b dim nv) := fun s A B row h hg hr => by
  have hlt := (Array.getElem?_eq_some_iff.1 h).1
  refine (hg.block b hlt fun e => ?_).trans h
  obtain ⟨o, ho, hc⟩ := hr b e.symm
  rw [show A.heap[b]? = _ from h] at ho; cases ho; cases hc

set_option maxRecDepth 100000 in
set_option maxHeartbeats 4000000 in
theorem Depths_any (dim : Int) (nv : Value) (ls : List Nd) (lo : Nat) (w : World) (h : Nds w lo w.heap.size nv ls) :
    Calls Tryd.prog 12 #[.agg #[.int .i64 dim, nv]] w fun e w' => (∃ v, e = .returned v ∧ Seq 1 inC w' w.heap.size w'.heap.size v (colDepths (vsOf dim ls))) ∧ Below w.heap.size w w' := by
  refine callsIn_wide (n := 9) |>.1 ?_
  have hvs : ItrW.Comes dim ls (vsOf dim ls) := comes_vs dim ls
  have hlen : (vsOf dim ls).length ≤ 127 := vs_len dim ls
  obtain ⟨vs, hv0⟩ : ∃ vs, vsOf dim ls = vs := ⟨_, rfl⟩
  rw [hv0] at hvs hlen ⊢
  have hN := h
  obtain ⟨A, cap, rfl, hc1, hc2, _⟩ := h.form
  obtain ⟨q, hq⟩ : ∃ q, ls.length = q := ⟨_, rfl⟩
  have HW := Lib.hid (fun (W : World) (hb : Below w.heap.size w W) => walk_any dim (.slice A ls.length cap) ls lo W ((h.below hb).more (Nat.le_refl _) hb.size))
  have hst0 := fun (W0 : World) => walk_gives w.heap.size lo dim (.slice A ls.length cap) ls (Cbo (fun k => k = w.heap.size + 1) (w.heap.size + 1) 0) (Wfo (fun k => k = w.heap.size + 1) (w.heap.size + 1) 0) vs hvs cb_a cb_s cb_b cb_x (9 - 1) (w.heap.size + 1 + 1) W0
  rw [hq] at HW hst0
  refine callsIn_of_wp_marks Tryd.func12 rfl trivial ?_ rfl
  simp only [Tryd.ntmps12, List.size_toArray, List.length_cons, List.length_nil, Nat.reduceAdd, Nat.reduceSub, Array.replicate_succ, Array.replicate_zero, List.push_toArray, List.append_toArray, List.nil_append, List.cons_append]
  rw [hq] at hc1 hN ⊢
  gi_wp2_with (refine ⟨trivial, ?_⟩; gi_at_call 31; refine (callsIn_wide.2 (HW.out _ (below_a2 w _ _))).mono ?_; rintro e w' ⟨rfl, rfl⟩)
  have bO := (Boxed.new (w.alloc (.cells #[.int .i64 dim, .slice A q cap] 24)) 29 (.slice none 0 0)).alloc (.cells #[.int .i64 dim, .slice A q cap] 24)
  have bT := heap_alloc_new ((w.alloc (.cells #[.int .i64 dim, .slice A q cap] 24)).alloc (.cells #[.slice none 0 0] 29)) (.cells #[.int .i64 dim, .slice A q cap] 24)
  simp only [World.size_alloc] at bO bT
  have hB0 : Below w.heap.size w (((w.alloc (.cells #[.int .i64 dim, .slice A q cap] 24)).alloc (.cells #[.slice none 0 0] 29)).alloc (.cells #[.int .i64 dim, .slice A q cap] 24)) := (below_a2 w _ _).alloc (by simp; omega) _
  have hsz : (((w.alloc (.cells #[.int .i64 dim, .slice A q cap] 24)).alloc (.cells #[.slice none 0 0] 29)).alloc (.cells #[.int .i64 dim, .slice A q cap] 24)).heap.size = w.heap.size + 3 := by simp
  obtain ⟨W0, hW0⟩ : ∃ W0, ((w.alloc (.cells #[.int .i64 dim, .slice A q cap] 24)).alloc (.cells #[.slice none 0 0] 29)).alloc (.cells #[.int .i64 dim, .slice A q cap] 24) = W0 := ⟨_, rfl⟩
  rw [hW0] at bO bT hB0 hsz ⊢
  clear hW0
  have hI : OwnFrom W0.heap.size (fun (pre : List Vis) (W : World) => (∃ v, Boxed W (w.heap.size + 1) 29 v ∧ W.ownsRow w.heap.size 3 1 v (colDepths pre).length ((colDepths pre).map (Value.int .i64)) ∧ True) ∧ Below w.heap.size w W) := OwnFrom.and (Own.from (holdsRow_own w.heap.size (w.heap.size + 1) 29 3 1 (fun pre => (colDepths pre).length) (fun pre => (colDepths pre).map (Value.int .i64)) (fun _ _ => True)) _) (ownFrom_below (Nat.le_refl _) (by omega))
  refine rangeG (F := Fence.wide) rfl (by decide) (gf := 51) (lb := #[.pointer (some ⟨w.heap.size + 1 + 1, 0, none⟩)]) rfl trivial (enters_of Tryd.func51 (by kernel_rfl) rfl)
    (hst0 W0 (by omega) (by omega) (wf_box bO (fun k hk => by cases hk)) (hN.below hB0) (cell_heap bT rfl) (cell_heap bT rfl)) kp_t (kp_b (by omega) (by omega)) (Below.refl _ _) (fun _ => rfl)
    (fun (pre : List Vis) (W : World) => (∃ v, Boxed W (w.heap.size + 1) 29 v ∧ W.ownsRow w.heap.size 3 1 v (colDepths pre).length ((colDepths pre).map (Value.int .i64)) ∧ True) ∧ Below w.heap.size w W) hI ⟨⟨_, bO, World.ownsRow_nil _ _ _ _, trivial⟩, hB0⟩ ?round ?done
  case round =>
    rintro l pre x W K hl ⟨⟨v, hv, hrow, _⟩, hB⟩ hpre hK
    have hplen := hpre.length_le
    simp only [List.length_append, List.length_cons, List.length_nil] at hplen
    simp only [visV]
    gi_wp2
    refine hK _ _ (fun W' => (fun (pre : List Vis) (W : World) => (∃ v, Boxed W (w.heap.size + 1) 29 v ∧ W.ownsRow w.heap.size 3 1 v (colDepths pre).length ((colDepths pre).map (Value.int .i64)) ∧ True) ∧ Below w.heap.size w W) pre W' ∧ VBox W' W.heap.size x) ((KeepsOthers.alloc _ _).from _) (kp_new _ hB.size (wf_box hv (fun k hk => (own_typ hrow k hk).2.2))) ⟨⟨⟨v, hv.alloc _, hrow.alloc _, trivial⟩, hB.alloc hB.size _⟩, heap_alloc_new W _⟩
      (OwnFrom.and (fun _ A B row hs hg hr => hI pre A B row hs hg hr) (Own.from (vbox_own _ _) _)) ?_
    have hBs := hB.size
    obtain ⟨Bx, hBx⟩ : ∃ Bx, W.heap.size = Bx := ⟨_, rfl⟩
    have hBx1 : w.heap.size + 1 < Bx := by rw [← hBx]; exact hv.lt
    simp only [hBx]
    clear hv hrow hB hBs hK hBx v W
    rintro W ⟨r, hr⟩ ⟨⟨⟨v, hv, hrow, _⟩, hB⟩, bX⟩
    have hc := hv.cell
    obtain ⟨x0, x1, x2⟩ := bX.cells
    have hpl : (colDepths pre).length ≤ pre.length := by simp [colDepths]
    gi_wp2_with (gi_at_builtin; refine listIn rfl _ _ 29 rfl eltI w.heap.size v (colDepths pre).length 1 1 ⟨W.heap.size, 0, none⟩ ((colDepths pre).map (Value.int .i64)) [.int .i64 x.2.2] rfl (hrow.alloc _) rfl rfl (cell_one_new _ _ _) (by simp [Value.oneCell']) (by omega) (by omega) (by have := hB.size; simp; omega) (W.heap.size + 1) (by simp) ?_; intro g cap' w1 hown' hgrow hat hlt; obtain ⟨hv1, hv2, hr2, hk2, hb2⟩ := hv.appended (by decide) hrow hB.size (by omega) hown' hgrow; have hKP := kp_app hv (by decide) hrow hB.size (by omega) hown' hgrow (fun g' hg' => by simp [Value.ownBlock] at hg'; subst hg'; exact hat.imp id (fun e => by omega)); have hc1 := hv1.cell; have hf1 := hv1.frozen)
    have hr2 := hr2
    exact ⟨rfl, hk2.from _, hKP, ⟨_, hv2, by simpa [colDepths] using hr2, trivial⟩, hB.trans hb2⟩
  case done =>
    rintro D W hD ⟨⟨v, hv, hrow, _⟩, hB⟩ hK
    have hc := hv.cell
    gi_wp2
    refine ⟨by simp, .inl ⟨_, _, rfl, run_takeDeferred hK, ?_⟩⟩
    exact ⟨_, results_tmp rfl _ _ _, ⟨v, rfl, Seq.of_own (by rw [flat_inC]; exact ownsRow_putObj hrow _ hK rfl)⟩, hB.trans (belowK_b (w := w) (Nat.le_refl _) W D _ _ (by omega) hK rfl rfl)⟩

set_option maxRecDepth 100000 in
set_option maxHeartbeats 4000000 in
theorem Parents_any (dim : Int) (nv : Value) (ls : List Nd) (lo : Nat) (w : World) (h : Nds w lo w.heap.size nv ls) :
    Calls Tryd.prog 14 #[.agg #[.int .i64 dim, nv]] w fun e w' => (∃ v, e = .returned v ∧ Seq 1 inC w' w.heap.size w'.heap.size v (colParents (vsOf dim ls))) ∧ Below w.heap.size w w' := by
  refine callsIn_wide (n := 9) |>.1 ?_
  have hvs : ItrW.Comes dim ls (vsOf dim ls) := comes_vs dim ls
  have hlen : (vsOf dim ls).length ≤ 127 := vs_len dim ls
  obtain ⟨vs, hv0⟩ : ∃ vs, vsOf dim ls = vs := ⟨_, rfl⟩
  rw [hv0] at hvs hlen ⊢
  have hN := h
  obtain ⟨A, cap, rfl, hc1, hc2, _⟩ := h.form
  obtain ⟨q, hq⟩ : ∃ q, ls.length = q := ⟨_, rfl⟩
  have HW := Lib.hid (fun (W : World) (hb : Below w.heap.size w W) => walk_any dim (.slice A ls.length cap) ls lo W ((h.below hb).more (Nat.le_refl _) hb.size))
  have hst0 := fun (W0 : World) => walk_gives w.heap.size lo dim (.slice A ls.length cap) ls (Cbo (fun k => k = w.heap.size + 1) (w.heap.size + 1) 0) (Wfo (fun k => k = w.heap.size + 1) (w.heap.size + 1) 0) vs hvs cb_a cb_s cb_b cb_x (9 - 1) (w.heap.size + 1 + 1) W0
  rw [hq] at HW hst0
  refine callsIn_of_wp_marks Tryd.func14 rfl trivial ?_ rfl
  simp only [Tryd.ntmps14, List.size_toArray, List.length_cons, List.length_nil, Nat.reduceAdd, Nat.reduceSub, Array.replicate_succ, Array.replicate_zero, List.push_toArray, List.append_toArray, List.nil_append, List.cons_append]
  rw [hq] at hc1 hN ⊢
  gi_wp2_with (refine ⟨trivial, ?_⟩; gi_at_call 31; refine (callsIn_wide.2 (HW.out _ (below_a2 w _ _))).mono ?_; rintro e w' ⟨rfl, rfl⟩)
  have bO := (Boxed.new (w.alloc (.cells #[.int .i64 dim, .slice A q cap] 24)) 29 (.slice none 0 0)).alloc (.cells #[.int .i64 dim, .slice A q cap] 24)
  have bT := heap_alloc_new ((w.alloc (.cells #[.int .i64 dim, .slice A q cap] 24)).alloc (.cells #[.slice none 0 0] 29)) (.cells #[.int .i64 dim, .slice A q cap] 24)
  simp only [World.size_alloc] at bO bT
  have hB0 : Below w.heap.size w (((w.alloc (.cells #[.int .i64 dim, .slice A q cap] 24)).alloc (.cells #[.slice none 0 0] 29)).alloc (.cells #[.int .i64 dim, .slice A q cap] 24)) := (below_a2 w _ _).alloc (by simp; omega) _
  have hsz : (((w.alloc (.cells #[.int .i64 dim, .slice A q cap] 24)).alloc (.cells #[.slice none 0 0] 29)).alloc (.cells #[.int .i64 dim, .slice A q cap] 24)).heap.size = w.heap.size + 3 := by simp
  obtain ⟨W0, hW0⟩ : ∃ W0, ((w.alloc (.cells #[.int .i64 dim, .slice A q cap] 24)).alloc (.cells #[.slice none 0 0] 29)).alloc (.cells #[.int .i64 dim, .slice A q cap] 24) = W0 := ⟨_, rfl⟩
  rw [hW0] at bO bT hB0 hsz ⊢
  clear hW0
  have hI : OwnFrom W0.heap.size (fun (pre : List Vis) (W : World) => (∃ v, Boxed W (w.heap.size + 1) 29 v ∧ W.ownsRow w.heap.size 3 1 v (colParents pre).length ((colParents pre).map (Value.int .i64)) ∧ True) ∧ Below w.heap.size w W) := OwnFrom.and (Own.from (holdsRow_own w.heap.size (w.heap.size + 1) 29 3 1 (fun pre => (colParents pre).length) (fun pre => (colParents pre).map (Value.int .i64)) (fun _ _ => True)) _) (ownFrom_below (Nat.le_refl _) (by omega))
  refine rangeG (F := Fence.wide) rfl (by decide) (gf := 51) (lb := #[.pointer (some ⟨w.heap.size + 1 + 1, 0, none⟩)]) rfl trivial (enters_of Tryd.func51 (by kernel_rfl) rfl)
    (hst0 W0 (by omega) (by omega) (wf_box bO (fun k hk => by cases hk)) (hN.below hB0) (cell_heap bT rfl) (cell_heap bT rfl)) kp_t (kp_b (by omega) (by omega)) (Below.refl _ _) (fun _ => rfl)
    (fun (pre : List Vis) (W : World) => (∃ v, Boxed W (w.heap.size + 1) 29 v ∧ W.ownsRow w.heap.size 3 1 v (colParents pre).length ((colParents pre).map (Value.int .i64)) ∧ True) ∧ Below w.heap.size w W) hI ⟨⟨_, bO, World.ownsRow_nil _ _ _ _, trivial⟩, hB0⟩ ?round ?done
  case round =>
    rintro l pre x W K hl ⟨⟨v, hv, hrow, _⟩, hB⟩ hpre hK
    have hplen := hpre.length_le
    simp only [List.length_append, List.length_cons, List.length_nil] at hplen
    simp only [visV]
    gi_wp2
    refine hK _ _ (fun W' => (fun (pre : List Vis) (W : World) => (∃ v, Boxed W (w.heap.size + 1) 29 v ∧ W.ownsRow w.heap.size 3 1 v (colParents pre).length ((colParents pre).map (Value.int .i64)) ∧ True) ∧ Below w.heap.size w W) pre W' ∧ VBox W' W.heap.size x) ((KeepsOthers.alloc _ _).from _) (kp_new _ hB.size (wf_box hv (fun k hk => (own_typ hrow k hk).2.2))) ⟨⟨⟨v, hv.alloc _, hrow.alloc _, trivial⟩, hB.alloc hB.size _⟩, heap_alloc_new W _⟩
      (OwnFrom.and (fun _ A B row hs hg hr => hI pre A B row hs hg hr) (Own.from (vbox_own _ _) _)) ?_
    have hBs := hB.size
    obtain ⟨Bx, hBx⟩ : ∃ Bx, W.heap.size = Bx := ⟨_, rfl⟩
    have hBx1 : w.heap.size + 1 < Bx := by rw [← hBx]; exact hv.lt
    simp only [hBx]
    clear hv hrow hB hBs hK hBx v W
    rintro W ⟨r, hr⟩ ⟨⟨⟨v, hv, hrow, _⟩, hB⟩, bX⟩
    have hc := hv.cell
    obtain ⟨x0, x1, x2⟩ := bX.cells
    have hpl : (colParents pre).length ≤ pre.length := by simp [colParents]
    gi_wp2_with (gi_at_builtin; refine listIn rfl _ _ 29 rfl eltI w.heap.size v (colParents pre).length 1 1 ⟨W.heap.size, 0, none⟩ ((colParents pre).map (Value.int .i64)) [.int .i64 x.2.1] rfl (hrow.alloc _) rfl rfl (cell_one_new _ _ _) (by simp [Value.oneCell']) (by omega) (by omega) (by have := hB.size; simp; omega) (W.heap.size + 1) (by simp) ?_; intro g cap' w1 hown' hgrow hat hlt; obtain ⟨hv1, hv2, hr2, hk2, hb2⟩ := hv.appended (by decide) hrow hB.size (by omega) hown' hgrow; have hKP := kp_app hv (by decide) hrow hB.size (by omega) hown' hgrow (fun g' hg' => by simp [Value.ownBlock] at hg'; subst hg'; exact hat.imp id (fun e => by omega)); have hc1 := hv1.cell; have hf1 := hv1.frozen)
    have hr2 := hr2
    exact ⟨rfl, hk2.from _, hKP, ⟨_, hv2, by simpa [colParents] using hr2, trivial⟩, hB.trans hb2⟩
  case done =>
    rintro D W hD ⟨⟨v, hv, hrow, _⟩, hB⟩ hK
    have hc := hv.cell
    gi_wp2
    refine ⟨by simp, .inl ⟨_, _, rfl, run_takeDeferred hK, ?_⟩⟩
    exact ⟨_, results_tmp rfl _ _ _, ⟨v, rfl, Seq.of_own (by rw [flat_inC]; exact ownsRow_putObj hrow _ hK rfl)⟩, hB.trans (belowK_b (w := w) (Nat.le_refl _) W D _ _ (by omega) hK rfl rfl)⟩

set_option maxRecDepth 100000 in
set_option maxHeartbeats 4000000 in
theorem Leaves_any (dim : Int) (nv : Value) (ls : List Nd) (lo : Nat) (w : World) (h : Nds w lo w.heap.size nv ls) :
    Calls Tryd.prog 16 #[.agg #[.int .i64 dim, nv]] w fun e w' => (∃ v, e = .returned v ∧ Seq 1 inC w' w.heap.size w'.heap.size v (colL ls (vsOf dim ls))) ∧ Below w.heap.size w w' := by
  refine callsIn_wide (n := 9) |>.1 ?_
  have hvs : ItrW.Comes dim ls (vsOf dim ls) := comes_vs dim ls
  have hlen : (vsOf dim ls).length ≤ 127 := vs_len dim ls
  have hplace := vs_place (dim := dim) (ls := ls)
  obtain ⟨vs, hv0⟩ : ∃ vs, vsOf dim ls = vs := ⟨_, rfl⟩
  rw [hv0] at hvs hlen hplace ⊢
  have hN := h
  obtain ⟨A, cap, rfl, hc1, hc2, _⟩ := h.form
  obtain ⟨q, hq⟩ : ∃ q, ls.length = q := ⟨_, rfl⟩
  have HW := Lib.hid (fun (W : World) (hb : Below w.heap.size w W) => walk_any dim (.slice A ls.length cap) ls lo W ((h.below hb).more (Nat.le_refl _) hb.size))
  have hst0 := fun (W0 : World) => walk_gives w.heap.size lo dim (.slice A ls.length cap) ls (Cbo (fun k => k = w.heap.size + 1) (w.heap.size + 1) 0) (Wfo (fun k => k = w.heap.size + 1) (w.heap.size + 1) 0) vs hvs cb_a cb_s cb_b cb_x (9 - 1) (w.heap.size + 1 + 1) W0
  rw [hq] at HW hst0
  refine callsIn_of_wp_marks Tryd.func16 rfl trivial ?_ rfl
  simp only [Tryd.ntmps16, List.size_toArray, List.length_cons, List.length_nil, Nat.reduceAdd, Nat.reduceSub, Array.replicate_succ, Array.replicate_zero, List.push_toArray, List.append_toArray, List.nil_append, List.cons_append]
  rw [hq] at hc1 hN ⊢
  gi_wp2_with (refine ⟨trivial, ?_⟩; gi_at_call 31; refine (callsIn_wide.2 (HW.out _ (below_a2 w _ _))).mono ?_; rintro e w' ⟨rfl, rfl⟩)
  have bO := (Boxed.new (w.alloc (.cells #[.int .i64 dim, .slice A q cap] 24)) 29 (.slice none 0 0)).alloc (.cells #[.int .i64 dim, .slice A q cap] 24)
  have bT := heap_alloc_new ((w.alloc (.cells #[.int .i64 dim, .slice A q cap] 24)).alloc (.cells #[.slice none 0 0] 29)) (.cells #[.int .i64 dim, .slice A q cap] 24)
  simp only [World.size_alloc] at bO bT
  have b2 : Boxed2 (((w.alloc (.cells #[.int .i64 dim, .slice A q cap] 24)).alloc (.cells #[.slice none 0 0] 29)).alloc (.cells #[.int .i64 dim, .slice A q cap] 24)) w.heap.size dim (.slice A q cap) := (Below.heap_alloc _ _ _ (by simp; omega)).trans ((Below.heap_alloc _ _ _ (by simp)).trans (heap_alloc_new w _))
  have hB0 : Below w.heap.size w (((w.alloc (.cells #[.int .i64 dim, .slice A q cap] 24)).alloc (.cells #[.slice none 0 0] 29)).alloc (.cells #[.int .i64 dim, .slice A q cap] 24)) := (below_a2 w _ _).alloc (by simp; omega) _
  have hsz : (((w.alloc (.cells #[.int .i64 dim, .slice A q cap] 24)).alloc (.cells #[.slice none 0 0] 29)).alloc (.cells #[.int .i64 dim, .slice A q cap] 24)).heap.size = w.heap.size + 3 := by simp
  obtain ⟨W0, hW0⟩ : ∃ W0, ((w.alloc (.cells #[.int .i64 dim, .slice A q cap] 24)).alloc (.cells #[.slice none 0 0] 29)).alloc (.cells #[.int .i64 dim, .slice A q cap] 24) = W0 := ⟨_, rfl⟩
  rw [hW0] at bO bT hB0 hsz b2 ⊢
  clear hW0
  have hI : OwnFrom W0.heap.size (fun (pre : List Vis) (W : World) => (∃ v, Boxed W (w.heap.size + 1) 29 v ∧ W.ownsRow w.heap.size 3 1 v (colL ls pre).length ((colL ls pre).map (Value.int .i64)) ∧ True) ∧ Boxed2 W w.heap.size dim (.slice A q cap) ∧ Below w.heap.size w W) := OwnFrom.and (Own.from (holdsRow_own w.heap.size (w.heap.size + 1) 29 3 1 (fun pre => (colL ls pre).length) (fun pre => (colL ls pre).map (Value.int .i64)) (fun _ _ => True)) _) (OwnFrom.and (Own.from (boxed2_own _ _ _) _) (ownFrom_below (Nat.le_refl _) (by omega)))
  refine rangeG (F := Fence.wide) rfl (by decide) (gf := 51) (lb := #[.pointer (some ⟨w.heap.size + 1 + 1, 0, none⟩)]) rfl trivial (enters_of Tryd.func51 (by kernel_rfl) rfl)
    (hst0 W0 (by omega) (by omega) (wf_box bO (fun k hk => by cases hk)) (hN.below hB0) (cell_heap bT rfl) (cell_heap bT rfl)) kp_t (kp_b (by omega) (by omega)) (Below.refl _ _) (fun _ => rfl)
    (fun (pre : List Vis) (W : World) => (∃ v, Boxed W (w.heap.size + 1) 29 v ∧ W.ownsRow w.heap.size 3 1 v (colL ls pre).length ((colL ls pre).map (Value.int .i64)) ∧ True) ∧ Boxed2 W w.heap.size dim (.slice A q cap) ∧ Below w.heap.size w W) hI ⟨⟨_, bO, World.ownsRow_nil _ _ _ _, trivial⟩, b2, hB0⟩ ?round ?done
  case round =>
    rintro l pre x W K hl ⟨⟨v, hv, hrow, _⟩, b21, hB⟩ hpre hK
    have hplen := hpre.length_le
    simp only [List.length_append, List.length_cons, List.length_nil] at hplen
    simp only [visV]
    gi_wp2
    refine hK _ _ (fun W' => (fun (pre : List Vis) (W : World) => (∃ v, Boxed W (w.heap.size + 1) 29 v ∧ W.ownsRow w.heap.size 3 1 v (colL ls pre).length ((colL ls pre).map (Value.int .i64)) ∧ True) ∧ Boxed2 W w.heap.size dim (.slice A q cap) ∧ Below w.heap.size w W) pre W' ∧ VBox W' W.heap.size x) ((KeepsOthers.alloc _ _).from _) (kp_new _ hB.size (wf_box hv (fun k hk => (own_typ hrow k hk).2.2))) ⟨⟨⟨v, hv.alloc _, hrow.alloc _, trivial⟩, b21.alloc _, hB.alloc hB.size _⟩, heap_alloc_new W _⟩
      (OwnFrom.and (fun _ A B row hs hg hr => hI pre A B row hs hg hr) (Own.from (vbox_own _ _) _)) ?_
    have hBs := hB.size
    obtain ⟨Bx, hBx⟩ : ∃ Bx, W.heap.size = Bx := ⟨_, rfl⟩
    have hBx1 : w.heap.size + 1 < Bx := by rw [← hBx]; exact hv.lt
    simp only [hBx]
    clear hv hrow hB hBs hK hBx b21 v W
    rintro W ⟨r, hr⟩ ⟨⟨⟨v, hv, hrow, _⟩, b21, hB⟩, bX⟩
    have hc := hv.cell
    obtain ⟨x0, x1, x2⟩ := bX.cells
    have hpl : (colL ls pre).length ≤ pre.length := colL_le ls pre
    obtain ⟨i, nd, hxi, hnd⟩ := hplace x (hpre.subset (by simp))
    obtain ⟨t0, t1⟩ := b21.cells
    obtain ⟨ad, cv, e1, hbk, d0, d1, d2, d3, d4, hcv⟩ := (hN.below hB).get hnd
    have hin := (List.getElem?_eq_some_iff.1 hnd).1
    rw [hq] at hin
    rw [hxi] at x0
    by_cases hlf : nd.left = 0
    · gi_wp2_with (gi_at_builtin; refine listIn rfl _ _ 29 rfl eltI w.heap.size v (colL ls pre).length 1 1 ⟨W.heap.size, 0, none⟩ ((colL ls pre).map (Value.int .i64)) [.int .i64 (i : Int)] rfl (hrow.alloc _) rfl rfl (cell_one_new _ _ _) (by simp [Value.oneCell']) (by omega) (by omega) (by have := hB.size; simp; omega) (W.heap.size + 1) (by simp) ?_; intro g cap' w1 hown' hgrow hat hlt; obtain ⟨hv1, hv2, hr2, hk2, hb2⟩ := hv.appended (by decide) hrow hB.size (by omega) hown' hgrow; have hKP := kp_app hv (by decide) hrow hB.size (by omega) hown' hgrow (fun g' hg' => by simp [Value.ownBlock] at hg'; subst hg'; exact hat.imp id (fun e => by omega)); have hc1 := hv1.cell; have hf1 := hv1.frozen)
      all_goals try (rename_i hh; exfalso; simp [hlf] at hh; done)
      have b22 : Boxed2 _ w.heap.size dim (.slice A q cap) := ((hKP.2.1 _ _ _ _ b21 (fun hh => hh.elim (fun (e : w.heap.size = w.heap.size + 1) => by omega) (fun ⟨u, hu, hk⟩ => by rw [hc] at hu; obtain rfl := Option.some.inj hu; obtain ⟨cs, fz, e⟩ := (own_typ hrow _ hk).1; rw [show W.heap[w.heap.size]? = _ from b21] at e; cases e))).1).trans b21
      exact ⟨rfl, hk2.from _, hKP, ⟨_, hv2, by rw [colL_hit ls pre hxi hnd hlf]; simpa using hr2, trivial⟩, b22, hB.trans hb2⟩
    · have hlf0 : (nd.left == 0) = false := by rw [beq_eq_false_iff_ne]; exact hlf
      gi_wp2
      all_goals try (rename_i hh; exfalso; simp [hlf] at hh; done)
      exact ⟨rfl, KeepsFrom.refl _ _, kp_refl _, ⟨_, hv, by rw [colL_miss ls pre hxi hnd hlf]; exact hrow, trivial⟩, b21, hB⟩
  case done =>
    rintro D W hD ⟨⟨v, hv, hrow, _⟩, b21, hB⟩ hK
    have hc := hv.cell
    gi_wp2
    refine ⟨by simp, .inl ⟨_, _, rfl, run_takeDeferred hK, ?_⟩⟩
    exact ⟨_, results_tmp rfl _ _ _, ⟨v, rfl, Seq.of_own (by rw [flat_inC]; exact ownsRow_putObj hrow _ hK rfl)⟩, hB.trans (belowK_b (w := w) (Nat.le_refl _) W D _ _ (by omega) hK rfl rfl)⟩
end Go.Proofs.YtmmgfelifmdnbaaDoor.ItrG
