/- The walk of lives(). -/
import Derived.Test.YtmmgfelifmdnbaaDoorLivM
import Derived.Test.YtmmgfelifmdnbaaDoorRRoW
namespace Go.Proofs.YtmmgfelifmdnbaaDoor.LivW
set_option linter.unusedVariables false
open Go.RowKit Go.Shelf Base SeqM ShpM ShpV ShpW ShpD ShpT ShpI ShpJ ShpR ShpU ItrD ItrK ItrF ItrG LefM PruM PruW RouM RouW TxtM GlbS WrtM ParW TexW LivM

theorem seq_lit (W : World) (l : List Int) (n : Nat) (hn : l.length = n) (hm : n ≤ 1000) : Seq 1 inC (W.alloc (.cells ((l.map (Value.int .i64)).toArray) 3)) 0 (W.alloc (.cells ((l.map (Value.int .i64)).toArray) 3)).heap.size (.slice (some ⟨W.heap.size, 0, none⟩) n n) l :=
  seq_rowI (show RowI _ W.heap.size l from heap_alloc_new W _) hn (Nat.zero_le _) (by omega)
theorem vecs_lit (W : World) : Vecs (((W.alloc (.cells #[.int .i64 2] 3)).alloc (.cells #[.int .i64 9] 3)).alloc (.cells #[.slice (some ⟨W.heap.size, 0, none⟩) 1 1, .slice (some ⟨W.heap.size + 1, 0, none⟩) 1 1] 29)) 0
    (((W.alloc (.cells #[.int .i64 2] 3)).alloc (.cells #[.int .i64 9] 3)).alloc (.cells #[.slice (some ⟨W.heap.size, 0, none⟩) 1 1, .slice (some ⟨W.heap.size + 1, 0, none⟩) 1 1] 29)).heap.size (.slice (some ⟨W.heap.size + 1 + 1, 0, none⟩) 2 2) [[2], [9]] := by
  have a1 := seq_lit W [2] 1 rfl (by omega)
  have a2 := seq_lit (W.alloc (.cells #[.int .i64 2] 3)) [9] 1 rfl (by omega)
  have b2 := below_a1 ((W.alloc (.cells #[.int .i64 2] 3)).alloc (.cells #[.int .i64 9] 3)) (.cells #[.slice (some ⟨W.heap.size, 0, none⟩) 1 1, .slice (some ⟨W.heap.size + 1, 0, none⟩) 1 1] 29)
  have b1 := below_a1 (W.alloc (.cells #[.int .i64 2] 3)) (.cells #[.int .i64 9] 3)
  refine ⟨[(.slice (some ⟨W.heap.size, 0, none⟩) 1 1, [2]), (.slice (some ⟨W.heap.size + 1, 0, none⟩) 1 1, [9])], rfl, ?_, fun r hr => ?_⟩
  · have hh := heap_alloc_new ((W.alloc (.cells #[.int .i64 2] 3)).alloc (.cells #[.int .i64 9] 3)) (.cells #[.slice (some ⟨W.heap.size, 0, none⟩) 1 1, .slice (some ⟨W.heap.size + 1, 0, none⟩) 1 1] 29)
    have := Seq.of_own (α := Value × List Int) (f := vcC) (k := 1) (base := 0) (e := 29) (w := ((W.alloc (.cells #[.int .i64 2] 3)).alloc (.cells #[.int .i64 9] 3)).alloc (.cells #[.slice (some ⟨W.heap.size, 0, none⟩) 1 1, .slice (some ⟨W.heap.size + 1, 0, none⟩) 1 1] 29)) (v := .slice (some ⟨W.heap.size + 1 + 1, 0, none⟩) 2 2) (l := [(.slice (some ⟨W.heap.size, 0, none⟩) 1 1, [2]), (.slice (some ⟨W.heap.size + 1, 0, none⟩) 1 1, [9])])
      ⟨rfl, .inr ⟨W.heap.size + 1 + 1, 2, _, rfl, Nat.zero_le _, by simpa using hh, Nat.le_refl _, by unfold maxLen; omega, rfl, rfl⟩⟩
    exact this
  · rcases List.mem_cons.1 hr with rfl | hr
    · exact ((a1.up b1).up b2)
    · obtain rfl := List.mem_singleton.1 hr
      have := a2.up b2
      simpa using this
structure LV (w : World) (b : Nat) (dim : Int) (A : Option Addr) (n c : Nat) (T : List Nd) (W : World) : Prop where
  box : Boxed2 W b dim (.slice A n c)
  nds : Nds W 0 W.heap.size (.slice A n c) T
  low : Below w.heap.size w W
theorem LV.below {w : World} {b : Nat} {dim : Int} {A : Option Addr} {n c : Nat} {T : List Nd} {W W' : World} (h : LV w b dim A n c T W) (hb : Below W.heap.size W W') : LV w b dim A n c T W' :=
  ⟨(hb.block b (Array.getElem?_eq_some_iff.1 h.box).1).trans h.box, h.nds.up hb, bt hb h.low⟩
theorem LV.cells {w : World} {b : Nat} {dim : Int} {A : Option Addr} {n c : Nat} {T : List Nd} {W : World} (h : LV w b dim A n c T W) : W.cell? ⟨b, 0, none⟩ = some (.int .i64 dim) ∧ W.cell? ⟨b, 1, none⟩ = some (.slice A n c) := h.box.cells
theorem LV.lt {w : World} {b : Nat} {dim : Int} {A : Option Addr} {n c : Nat} {T : List Nd} {W : World} (h : LV w b dim A n c T W) : b < W.heap.size := (Array.getElem?_eq_some_iff.1 h.box).1
set_option maxHeartbeats 8000000 in
set_option maxRecDepth 100000 in
theorem lives_any (w : World) (hG : G w) : Calls Tryd.prog 8 #[] w fun e w' => e = .returned (.bool true) ∧ Below w.heap.size w w' := by
  have PP := Lib.hid (by have := Parse_any s0 w hG (by decide); rw [read_t0] at this; exact this : Calls Tryd.prog 28 #[.string ⟨s0.toArray⟩] w (PPost w (1, t0.nodes 0, 0)))
  have HP2 := Lib.hid (fun (W : World) (hb : Below w.heap.size w W) => (by have := Parse_any s1 W (hG.below hb) (by decide); rw [read_s1] at this; exact this : Calls Tryd.prog 28 #[.string ⟨s1.toArray⟩] W (PPost W (0, [], 20))))
  have h5 : (t0.nodes 0).length = 5 := rfl
  have h3 : (p0.nodes 0).length = 3 := rfl
  have HPr := Lib.hid (fun (v : Value) (W : World) (h : Nds W 0 W.heap.size v (t0.nodes 0)) => by have := ItrP.Prune_any 1 1 v (t0.nodes 0) 0 W h; rw [prune_t0] at this; exact this)
  have HD := Lib.hid (fun (v : Value) (W : World) (h : Nds W 0 W.heap.size v (t0.nodes 0)) => by have := Depth_any 1 v (t0.nodes 0) 0 W h; rw [most_t0] at this; exact this)
  have HL := Lib.hid (fun (v : Value) (W : World) (h : Nds W 0 W.heap.size v (t0.nodes 0)) => by have := Leaves_any 1 v (t0.nodes 0) 0 W h; rw [leaf_t0] at this; exact this)
  have HPa := Lib.hid (fun (v : Value) (W : World) (h : Nds W 0 W.heap.size v (t0.nodes 0)) => by have := Parents_any 1 v (t0.nodes 0) 0 W h; rw [par_t0] at this; exact this)
  have HDe := Lib.hid (fun (v : Value) (W : World) (h : Nds W 0 W.heap.size v (t0.nodes 0)) => by have := Depths_any 1 v (t0.nodes 0) 0 W h; rw [dep_t0] at this; exact this)
  have HIs := Lib.hid (fun (v : Value) (W : World) (h : Nds W 0 W.heap.size v (t0.nodes 0)) => by have := RTIs_any v (t0.nodes 0) 1 0 W h (by rw [h5]; omega); rw [isTB_true.2 t0_is] at this; exact this)
  have HRt := Lib.hid (fun (v lv : Value) (W : World) (h : Nds W 0 W.heap.size v (t0.nodes 0)) (h' : Vecs W 0 W.heap.size lv [[2], [9]]) => by have := Route_in v lv (t0.nodes 0) [[2], [9]] 1 0 0 W h h' t0_is t0 (at_nodes t0) rfl t0_ok (by decide); rw [h5, route_t0, vecs_t0] at this; exact this)
  have HTx := Lib.hid (fun (v : Value) (W : World) (hb : Below w.heap.size w W) (h : Nds W 0 W.heap.size v (p0.nodes 0)) => by have := Text_any 1 v (p0.nodes 0) 0 W h (hG.below hb); rw [text_prune] at this; exact this)
  obtain ⟨T, hT⟩ : ∃ T, t0.nodes 0 = T := ⟨_, rfl⟩
  obtain ⟨T2, hT2⟩ : ∃ T, p0.nodes 0 = T := ⟨_, rfl⟩
  rw [hT] at PP HPr HD HL HPa HDe HIs HRt h5
  rw [hT2] at HPr HTx h3
  have H5 := Lib.hid h5
  have H3 := Lib.hid h3
  clear hT hT2 h5 h3 hG
  go_enter Tryd.func8, Tryd.ntmps8
  go_wp2_with fail
  refine PP.out.mono ?_
  rintro e w1 ⟨⟨v1, rfl, hN1⟩, hb1⟩
  dsimp only at hN1 ⊢
  obtain ⟨A1, c1, rfl, _, _, _⟩ := hN1.form
  rw [H5.out] at hN1 ⊢
  have X1 := Lib.hid (show LV w w1.heap.size 1 A1 5 c1 T (w1.alloc (.cells #[.int .i64 1, .slice A1 5 c1] 24)) from ⟨heap_alloc_new w1 _, (hN1.more (Nat.zero_le _) (Nat.le_refl _)).up (below_a1 _ _), bt (below_a1 _ _) hb1⟩)
  clear hN1 hb1
  obtain ⟨b1, hb1⟩ : ∃ b, w1.heap.size = b := ⟨_, rfl⟩
  rw [hb1] at X1
  go_wp2_with fail
  (try rw [hb1])
  refine (HPr.out _ _ X1.out.nds).mono ?_
  rintro e w2 ⟨⟨v2, rfl, hN2⟩, hb2⟩
  dsimp only at hN2 ⊢
  obtain ⟨A2, c2, rfl, _, _, _⟩ := hN2.form
  rw [H3.out] at hN2 ⊢
  have X2 := Lib.hid (X1.out.below hb2)
  obtain ⟨t0', t1'⟩ := X2.out.cells
  have lz := X2.out.lt
  have hv3 := vecs_lit (w2.alloc (.cells #[.int .i64 1, .slice A2 3 c2] 24))
  simp only [World.size_alloc] at hv3
  have Y3 := Lib.hid (show LV w w2.heap.size 1 A2 3 c2 T2 (w2.alloc (.cells #[.int .i64 1, .slice A2 3 c2] 24)) from ⟨heap_alloc_new w2 _, (hN2.more (Nat.zero_le _) (Nat.le_refl _)).up (below_a1 _ _), bt (below_a1 _ _) X2.out.low⟩)
  have X3 := Lib.hid (X2.out.below (below_a1 w2 (.cells #[.int .i64 1, .slice A2 3 c2] 24)))
  have HV3 := Lib.hid hv3
  clear hN2 hb2 hb1 hv3
  go_wp2_with fail
  have BB := fun (W : World) (o1 o2 o3 : Obj) => below_a3 W o1 o2 o3
  refine (HRt.out _ _ _ ((X3.out.below (BB _ _ _ _)).nds) (by have := HV3.out; simpa using this)).mono ?_
  rintro e w4 ⟨hrt, hb4⟩
  unfold RtPost at hrt
  rw [if_pos rfl] at hrt
  obtain ⟨v4, rfl, hS4⟩ := hrt
  obtain ⟨NA, nc, e4, _⟩ := id hS4
  rw [show ([2, 1, 0, 1, 1] : List Int).length = 5 from rfl] at e4
  subst e4
  have X4 := Lib.hid ((X3.out.below (BB _ _ _ _)).below hb4)
  have Y4 := Lib.hid ((Y3.out.below (BB _ _ _ _)).below hb4)
  have S4 := Lib.hid (hS4.more (Nat.zero_le _) (Nat.le_refl _))
  obtain ⟨b3, hb3⟩ : ∃ b, w2.heap.size = b := ⟨_, rfl⟩
  rw [hb3] at Y4 ⊢
  clear t0' t1' lz hb4 hS4 BB hb3
  go_wp2_with fail
  refine (HP2.out _ X4.out.low).mono ?_
  rintro e w5 ⟨⟨v5, rfl, hN5⟩, hb5⟩
  dsimp only at hN5 ⊢
  obtain ⟨A5, c5, rfl, _, _, _⟩ := hN5.form
  have X5 := Lib.hid (X4.out.below hb5)
  have Y5 := Lib.hid (Y4.out.below hb5)
  have S5 := Lib.hid (S4.out.up hb5)
  clear hb5 hN5
  obtain ⟨t0', t1'⟩ := X5.out.cells
  have lz := X5.out.lt
  obtain ⟨p0', p1'⟩ := Y5.out.cells
  have ly := Y5.out.lt
  go_wp2_with fail
  refine (HIs.out _ _ (X5.out.below (below_a1 _ _)).nds).mono ?_
  rintro e w6 ⟨rfl, hb⟩
  have X6 := Lib.hid ((X5.out.below (below_a1 _ _)).below hb)
  have Y6 := Lib.hid ((Y5.out.below (below_a1 _ _)).below hb)
  have S6 := Lib.hid ((S5.out.up (below_a1 _ _)).up hb)
  clear hb t0' t1' lz p0' p1' ly
  obtain ⟨t0', t1'⟩ := X6.out.cells
  have lz := X6.out.lt
  obtain ⟨p0', p1'⟩ := Y6.out.cells
  have ly := Y6.out.lt
  go_wp2_with fail
  refine (HD.out _ _ X6.out.nds).mono ?_
  rintro e w7 ⟨rfl, hb⟩
  have X7 := Lib.hid ((X6.out).below hb)
  have Y7 := Lib.hid ((Y6.out).below hb)
  have S7 := Lib.hid ((S6.out).up hb)
  clear hb t0' t1' lz p0' p1' ly
  obtain ⟨t0', t1'⟩ := X7.out.cells
  have lz := X7.out.lt
  obtain ⟨p0', p1'⟩ := Y7.out.cells
  have ly := Y7.out.lt
  go_wp2_with fail
  refine (HL.out _ _ X7.out.nds).mono ?_
  rintro e w8 ⟨⟨v, rfl, hS⟩, hb⟩
  have X8 := Lib.hid ((X7.out).below hb)
  have Y8 := Lib.hid ((Y7.out).below hb)
  have S8 := Lib.hid ((S7.out).up hb)
  clear hb t0' t1' lz p0' p1' ly
  obtain ⟨t0', t1'⟩ := X8.out.cells
  have lz := X8.out.lt
  obtain ⟨p0', p1'⟩ := Y8.out.cells
  have ly := Y8.out.lt
  obtain ⟨LA, lc, el, _⟩ := id hS
  subst el
  have QQ := Lib.hid hS
  clear hS
  go_wp2_with fail
  refine (RSame_any _ _ [2, 3, 4] [2, 3, 4] _ _ _ _ _ ((QQ.out).up (below_a1 _ _)) (seq_lit w8 [2, 3, 4] 3 rfl (by omega))).mono ?_
  rintro e wd ⟨rfl, nq, rfl⟩
  rw [show decide (([2, 3, 4] : List Int) = [2, 3, 4]) = true from decide_eq_true rfl]
  have hb := below_drewN (below_a1 w8 (.cells ((([2, 3, 4] : List Int).map (Value.int .i64)).toArray) 3)) nq
  obtain ⟨w9, hw⟩ : ∃ W, (w8.alloc (.cells ((([2, 3, 4] : List Int).map (Value.int .i64)).toArray) 3)).drewN nq = W := ⟨_, rfl⟩
  (try rw [hw])
  rw [hw] at hb
  have X9 := Lib.hid ((X8.out).below hb)
  have Y9 := Lib.hid ((Y8.out).below hb)
  have S9 := Lib.hid ((S8.out).up hb)
  clear hb t0' t1' lz p0' p1' ly
  obtain ⟨t0', t1'⟩ := X9.out.cells
  have lz := X9.out.lt
  obtain ⟨p0', p1'⟩ := Y9.out.cells
  have ly := Y9.out.lt
  clear hw
  clear QQ
  go_wp2_with fail
  refine (HPa.out _ _ X9.out.nds).mono ?_
  rintro e w10 ⟨⟨v, rfl, hS⟩, hb⟩
  have X10 := Lib.hid ((X9.out).below hb)
  have Y10 := Lib.hid ((Y9.out).below hb)
  have S10 := Lib.hid ((S9.out).up hb)
  clear hb t0' t1' lz p0' p1' ly
  obtain ⟨t0', t1'⟩ := X10.out.cells
  have lz := X10.out.lt
  obtain ⟨p0', p1'⟩ := Y10.out.cells
  have ly := Y10.out.lt
  obtain ⟨LA, lc, el, _⟩ := id hS
  subst el
  have QQ := Lib.hid hS
  clear hS
  go_wp2_with fail
  refine (RSame_any _ _ [-1, 0, 1, 1, 0] [-1, 0, 1, 1, 0] _ _ _ _ _ ((QQ.out).up (below_a1 _ _)) (seq_lit w10 [-1, 0, 1, 1, 0] 5 rfl (by omega))).mono ?_
  rintro e wd ⟨rfl, nq, rfl⟩
  rw [show decide (([-1, 0, 1, 1, 0] : List Int) = [-1, 0, 1, 1, 0]) = true from decide_eq_true rfl]
  have hb := below_drewN (below_a1 w10 (.cells ((([-1, 0, 1, 1, 0] : List Int).map (Value.int .i64)).toArray) 3)) nq
  obtain ⟨w11, hw⟩ : ∃ W, (w10.alloc (.cells ((([-1, 0, 1, 1, 0] : List Int).map (Value.int .i64)).toArray) 3)).drewN nq = W := ⟨_, rfl⟩
  (try rw [hw])
  rw [hw] at hb
  have X11 := Lib.hid ((X10.out).below hb)
  have Y11 := Lib.hid ((Y10.out).below hb)
  have S11 := Lib.hid ((S10.out).up hb)
  clear hb t0' t1' lz p0' p1' ly
  obtain ⟨t0', t1'⟩ := X11.out.cells
  have lz := X11.out.lt
  obtain ⟨p0', p1'⟩ := Y11.out.cells
  have ly := Y11.out.lt
  clear hw
  clear QQ
  go_wp2_with fail
  refine (HDe.out _ _ X11.out.nds).mono ?_
  rintro e w12 ⟨⟨v, rfl, hS⟩, hb⟩
  have X12 := Lib.hid ((X11.out).below hb)
  have Y12 := Lib.hid ((Y11.out).below hb)
  have S12 := Lib.hid ((S11.out).up hb)
  clear hb t0' t1' lz p0' p1' ly
  obtain ⟨t0', t1'⟩ := X12.out.cells
  have lz := X12.out.lt
  obtain ⟨p0', p1'⟩ := Y12.out.cells
  have ly := Y12.out.lt
  obtain ⟨LA, lc, el, _⟩ := id hS
  subst el
  have QQ := Lib.hid hS
  clear hS
  go_wp2_with fail
  refine (RSame_any _ _ [0, 1, 2, 2, 1] [0, 1, 2, 2, 1] _ _ _ _ _ ((QQ.out).up (below_a1 _ _)) (seq_lit w12 [0, 1, 2, 2, 1] 5 rfl (by omega))).mono ?_
  rintro e wd ⟨rfl, nq, rfl⟩
  rw [show decide (([0, 1, 2, 2, 1] : List Int) = [0, 1, 2, 2, 1]) = true from decide_eq_true rfl]
  have hb := below_drewN (below_a1 w12 (.cells ((([0, 1, 2, 2, 1] : List Int).map (Value.int .i64)).toArray) 3)) nq
  obtain ⟨w13, hw⟩ : ∃ W, (w12.alloc (.cells ((([0, 1, 2, 2, 1] : List Int).map (Value.int .i64)).toArray) 3)).drewN nq = W := ⟨_, rfl⟩
  (try rw [hw])
  rw [hw] at hb
  have X13 := Lib.hid ((X12.out).below hb)
  have Y13 := Lib.hid ((Y12.out).below hb)
  have S13 := Lib.hid ((S12.out).up hb)
  clear hb t0' t1' lz p0' p1' ly
  obtain ⟨t0', t1'⟩ := X13.out.cells
  have lz := X13.out.lt
  obtain ⟨p0', p1'⟩ := Y13.out.cells
  have ly := Y13.out.lt
  clear hw
  clear QQ
  go_wp2_with fail
  refine (HTx.out _ _ X13.out.low Y13.out.nds).mono ?_
  rintro e w14 ⟨rfl, hb⟩
  have X14 := Lib.hid ((X13.out).below hb)
  have Y14 := Lib.hid ((Y13.out).below hb)
  have S14 := Lib.hid ((S13.out).up hb)
  clear hb t0' t1' lz p0' p1' ly
  obtain ⟨t0', t1'⟩ := X14.out.cells
  have lz := X14.out.lt
  obtain ⟨p0', p1'⟩ := Y14.out.cells
  have ly := Y14.out.lt
  go_wp2_with fail
  have QQ := Lib.hid S14.out
  refine (RSame_any _ _ [2, 1, 0, 1, 1] [2, 1, 0, 1, 1] _ _ _ _ _ ((QQ.out).up (below_a1 _ _)) (seq_lit w14 [2, 1, 0, 1, 1] 5 rfl (by omega))).mono ?_
  rintro e wd ⟨rfl, nq, rfl⟩
  rw [show decide (([2, 1, 0, 1, 1] : List Int) = [2, 1, 0, 1, 1]) = true from decide_eq_true rfl]
  have hb := below_drewN (below_a1 w14 (.cells ((([2, 1, 0, 1, 1] : List Int).map (Value.int .i64)).toArray) 3)) nq
  obtain ⟨w15, hw⟩ : ∃ W, (w14.alloc (.cells ((([2, 1, 0, 1, 1] : List Int).map (Value.int .i64)).toArray) 3)).drewN nq = W := ⟨_, rfl⟩
  (try rw [hw])
  rw [hw] at hb
  have X15 := Lib.hid ((X14.out).below hb)
  have Y15 := Lib.hid ((Y14.out).below hb)
  have S15 := Lib.hid ((S14.out).up hb)
  clear hb t0' t1' lz p0' p1' ly
  obtain ⟨t0', t1'⟩ := X15.out.cells
  have lz := X15.out.lt
  obtain ⟨p0', p1'⟩ := Y15.out.cells
  have ly := Y15.out.lt
  clear hw
  go_wp2_with fail
  go_ret
  exact ⟨rfl, X15.out.low⟩
end Go.Proofs.YtmmgfelifmdnbaaDoor.LivW
