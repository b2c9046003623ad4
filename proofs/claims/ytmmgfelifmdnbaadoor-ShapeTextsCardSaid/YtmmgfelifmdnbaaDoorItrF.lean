/- shape.Depth: the deepest visit. -/
import Derived.Test.YtmmgfelifmdnbaaDoorItrK
namespace Go.Proofs.YtmmgfelifmdnbaaDoor.ItrF
set_option linter.unusedVariables false
open Go.RowKit Go.Shelf Go.WideElems Base SeqM ShpM ShpV ShpW ShpD ShpT ShpI ShpJ ItrD ItrW ItrK

attribute [local go_sem] Oper.semAt_some

def mostOf (l : List Vis) : Int := l.foldl (fun m v => max m v.2.2) 0
theorem mostOf_snoc (l : List Vis) (v : Vis) : mostOf (l ++ [v]) = max (mostOf l) v.2.2 := by simp [mostOf]
theorem visV_eq (x : Vis) : visV x = .agg #[.int .i64 x.1, .int .i64 x.2.1, .int .i64 x.2.2] := rfl
/-- the box of a visit -/
def VBox (W : World) (b : Nat) (x : Vis) : Prop := W.heap[b]? = some (.cells #[.int .i64 x.1, .int .i64 x.2.1, .int .i64 x.2.2] 54 (0, 0))
theorem VBox.cells {W : World} {b : Nat} {x : Vis} (h : VBox W b x) : W.cell? ⟨b, 0, none⟩ = some (.int .i64 x.1) ∧ W.cell? ⟨b, 1, none⟩ = some (.int .i64 x.2.1) ∧ W.cell? ⟨b, 2, none⟩ = some (.int .i64 x.2.2) :=
  ⟨cell_heap h rfl, cell_heap h rfl, cell_heap h rfl⟩
theorem vbox_own {β : Type} (b : Nat) (x : Vis) : Own (fun (_ : β) W => VBox W b x) := fun s A B row h hg hr => by
  have hlt := (Array.getElem?_eq_some_iff.1 h).1
  refine (hg.block b hlt fun e => ?_).trans h
  obtain ⟨o, ho, hc⟩ := hr b e.symm
  rw [show A.heap[b]? = _ from h] at ho; cases ho; cases hc
set_option maxRecDepth 100000 in
set_option maxHeartbeats 4000000 in
theorem Depth_any (dim : Int) (nv : Value) (ls : List Nd) (lo : Nat) (w : World) (h : Nds w lo w.heap.size nv ls) :
    Calls Tryd.prog 9 #[.agg #[.int .i64 dim, nv]] w fun e w' => e = .returned (.int .i64 (mostOf (vsOf dim ls))) ∧ Below w.heap.size w w' := by
  refine callsIn_wide (n := 9) |>.1 ?_
  obtain ⟨A, cap, rfl, hc1, hc2, _⟩ := h.form
  obtain ⟨q, hq⟩ : ∃ q, ls.length = q := ⟨_, rfl⟩
  have HW := Lib.hid (fun (W : World) (hb : Below w.heap.size w W) => walk_any dim (.slice A ls.length cap) ls lo W ((h.below hb).more (Nat.le_refl _) hb.size))
  rw [hq] at HW
  refine callsIn_of_wp_marks Tryd.func9 rfl trivial ?_ rfl
  simp only [Tryd.ntmps9, List.size_toArray, List.length_cons, List.length_nil, Nat.reduceAdd, Nat.reduceSub, Array.replicate_succ, Array.replicate_zero, List.push_toArray, List.append_toArray, List.nil_append, List.cons_append]
  rw [hq] at hc1 ⊢
  gi_wp2_with (refine ⟨trivial, ?_⟩; gi_at_call 31; refine (callsIn_wide.2 (HW.out _ (below_a2 w _ _))).mono ?_; rintro e w' ⟨rfl, rfl⟩)
  have bO := (Boxed.new (w.alloc (.cells #[.int .i64 dim, .slice A q cap] 24)) 3 (.int .i64 0)).alloc (.cells #[.int .i64 dim, .slice A q cap] 24)
  have bT := heap_alloc_new ((w.alloc (.cells #[.int .i64 dim, .slice A q cap] 24)).alloc (.cells #[.int .i64 0] 3)) (.cells #[.int .i64 dim, .slice A q cap] 24)
  simp only [World.size_alloc] at bO bT
  have hB0 : Below w.heap.size w (((w.alloc (.cells #[.int .i64 dim, .slice A q cap] 24)).alloc (.cells #[.int .i64 0] 3)).alloc (.cells #[.int .i64 dim, .slice A q cap] 24)) := (below_a2 w _ _).alloc (by simp; omega) _
  have hsz : (((w.alloc (.cells #[.int .i64 dim, .slice A q cap] 24)).alloc (.cells #[.int .i64 0] 3)).alloc (.cells #[.int .i64 dim, .slice A q cap] 24)).heap.size = w.heap.size + 3 := by simp
  obtain ⟨W0, hW0⟩ : ∃ W0, ((w.alloc (.cells #[.int .i64 dim, .slice A q cap] 24)).alloc (.cells #[.int .i64 0] 3)).alloc (.cells #[.int .i64 dim, .slice A q cap] 24) = W0 := ⟨_, rfl⟩
  rw [hW0] at bO bT hB0 hsz ⊢
  clear hW0
  have hwf : Wfo (fun k => k = w.heap.size + 1) (w.heap.size + 1) 0 W0 := wf_box bO (fun k hk => by cases hk)
  have hst := walk_stops w.heap.size lo dim (.slice A ls.length cap) ls (Cbo (fun k => k = w.heap.size + 1) (w.heap.size + 1) 0) (Wfo (fun k => k = w.heap.size + 1) (w.heap.size + 1) 0) cb_a cb_s cb_b cb_x (9 - 1) (w.heap.size + 1 + 1) W0 (by omega) (by omega) hwf (h.below hB0) (cell_heap bT rfl) (cell_heap bT (by rw [hq]; rfl))
  refine wpIn_rangeFunc_ownH (F := Fence.wide) rfl (by decide) (gf := 51) (lb := #[.pointer (some ⟨w.heap.size + 1 + 1, 0, none⟩)]) rfl trivial (enters_of Tryd.func51 (by kernel_rfl) rfl)
    hst kp_t (kp_b (by omega) (by omega)) (Below.refl _ _) (fun _ => rfl)
    (fun pre W => Boxed W (w.heap.size + 1) 3 (.int .i64 (mostOf pre)) ∧ Below w.heap.size w W)
    (fun _ _ _ => False)
    (OwnFrom.and (Own.from (boxed_own _ _ _) _) (ownFrom_below (Nat.le_refl _) (by omega))) (fun _ _ _ _ _ hs _ _ => hs)
    ⟨bO, hB0⟩
    (fun x a' W => ∃ Bx, w.heap.size + 1 < Bx ∧ VBox W Bx x ∧ a' = { tmps := #[.agg #[.int .i64 dim, .slice A q cap], .pointer (some ⟨w.heap.size, 0, none⟩), .int .i64 0, .pointer (some ⟨w.heap.size + 1, 0, none⟩), .pointer (some ⟨Bx, 0, none⟩), .agg #[.int .i64 dim, .slice A q cap], .func (.func 51) #[] #[.pointer (some ⟨w.heap.size + 1 + 1, 0, none⟩)], visV x, undef, undef, undef, undef, undef], defers := [] })
    (fun x a' _ X Y row hs hg hr => by obtain ⟨Bx, h1, h2, h3⟩ := hs; exact ⟨Bx, h1, vbox_own Bx x () X Y row h2 hg (fun r e => (hr r e).2), h3⟩)
    ?assign ?body ?done ?stop
  case assign =>
    rintro l pre x W K ⟨bO1, hB1⟩ hK
    simp only [visV]
    gi_wp2
    exact hK _ _ ((KeepsOthers.alloc _ _).from _) (kp_new _ hB1.size (wf_box bO1 (fun k hk => by cases hk))) ⟨bO1.alloc _, hB1.alloc hB1.size _⟩ ⟨W.heap.size, bO1.lt, heap_alloc_new W _, rfl⟩
  case body =>
    rintro l pre x a' W hl ⟨r, hr⟩ ⟨bO1, hB1⟩ ⟨Bx, hBx, bX, rfl⟩ hlt
    have cO := bO1.cell
    have fO := bO1.frozen
    obtain ⟨x0, x1, x2⟩ := bX.cells
    gi_wp2
    exact ⟨(KeepsOthers.setCell _ _ _).from _, kp_set (by omega) bO1 rfl rfl, by rw [mostOf_snoc]; exact bO1.set _, hB1.setCell (p := ⟨w.heap.size + 1, 0, none⟩) (by simp) _⟩
  case done =>
    rintro D zs W hD hcm ⟨bO1, hB1⟩ hK
    obtain rfl := comes_eq hcm
    have cO := bO1.cell
    gi_wp2
    refine ⟨by simp, .inl ⟨_, _, rfl, run_takeDeferred hK, ?_⟩⟩
    exact ⟨_, results_tmp rfl _ _ _, rfl, hB1.trans (belowK_b (w := w) (Nat.le_refl _) W D _ _ (by omega) hK rfl rfl)⟩
  case stop =>
    rintro D c pre W _ _ h _
    exact h.elim
end Go.Proofs.YtmmgfelifmdnbaaDoor.ItrF
