/- shape.Prune. -/
import Derived.Test.YtmmgfelifmdnbaaDoorPruW
import Derived.BigQuiet
namespace Go.Proofs.YtmmgfelifmdnbaaDoor.ItrP
set_option linter.unusedVariables false
open Go.BigFrame Go.RowKit Go.Shelf Go.WideElems Base SeqM ShpM ShpV ShpW ShpD ShpT ShpI ShpJ ItrD ItrW ItrK ItrF ItrG PruM PruW RndI

attribute [local go_sem] Oper.semAt_some

set_option maxRecDepth 100000 in
set_option maxHeartbeats 4000000 in
theorem Prune_in (D dim : Int) (nv : Value) (ls : List Nd) (lo : Nat) (w : World) (h : Nds w lo w.heap.size nv ls) (hT : IsT dim ls) (hD : 0 ≤ D) :
    Calls Tryd.prog 21 #[.agg #[.int .i64 dim, nv], .int .i64 D] w fun e w' => (∃ v, e = .returned (.tuple #[.agg #[.int .i64 dim, v], .int .i64 0]) ∧ Nds w' w.heap.size w'.heap.size v ((vsOf dim ls).foldl (stepP ls D) ([], List.replicate ls.length 0)).1) ∧ Below w.heap.size w w' := by
  refine callsIn_wide (n := 9) |>.1 ?_
  have hvs : ItrW.Comes dim ls (vsOf dim ls) := comes_vs dim ls
  have hlen : (vsOf dim ls).length ≤ 127 := vs_len dim ls
  have hplace := vs_place (dim := dim) (ls := ls)
  have hl1 := (isT_len hT).1
  have hl2 := (isT_len hT).2
  obtain ⟨vs, hv0⟩ : ∃ vs, vsOf dim ls = vs := ⟨_, rfl⟩
  rw [hv0] at hvs hlen hplace
  have hN := h
  obtain ⟨A, cap, rfl, hc1, hc2, _⟩ := h.form
  obtain ⟨q, hq⟩ : ∃ q, ls.length = q := ⟨_, rfl⟩
  have HW := Lib.hid (fun (W : World) (hb : Below w.heap.size w W) => walk_any dim (.slice A ls.length cap) ls lo W ((h.below hb).more (Nat.le_refl _) hb.size))
  have HI := Lib.hid (fun (W : World) (hb : Below w.heap.size w W) => TIs_any (.slice A ls.length cap) ls dim lo W ((h.below hb).more (Nat.le_refl _) hb.size))
  rw [hq] at HW HI
  have hD0 : decide (D < 0) = false := decide_eq_false (by omega)
  refine callsIn_of_wp_marks Tryd.func21 rfl trivial ?_ rfl
  simp only [Tryd.ntmps21, List.size_toArray, List.length_cons, List.length_nil, Nat.reduceAdd, Nat.reduceSub, Array.replicate_succ, Array.replicate_zero, List.push_toArray, List.append_toArray, List.nil_append, List.cons_append]
  rw [hq] at hc1 hN hl1 hl2 ⊢
  have hb3 : Below w.heap.size w (((w.alloc (.cells #[.int .i64 dim, .slice A q cap] 24)).alloc (.cells #[.int .i64 D] 3)).alloc (.cells #[.int .i64 0, .slice none 0 0] 24)) := (below_a2 w _ _).alloc (by simp; omega) _
  have g0 := heap_alloc_new w (.cells #[.int .i64 dim, .slice A q cap] 24)
  have g1 := heap_alloc_new (w.alloc (.cells #[.int .i64 dim, .slice A q cap] 24)) (.cells #[.int .i64 D] 3)
  have g2 := heap_alloc_new ((w.alloc (.cells #[.int .i64 dim, .slice A q cap] 24)).alloc (.cells #[.int .i64 D] 3)) (.cells #[.int .i64 0, .slice none 0 0] 24)
  replace g1 := (Below.heap_alloc _ (.cells #[.int .i64 0, .slice none 0 0] 24) _ (by simp)).trans g1
  replace g0 := (Below.heap_alloc _ (.cells #[.int .i64 0, .slice none 0 0] 24) _ (by simp; omega)).trans ((Below.heap_alloc _ (.cells #[.int .i64 D] 3) _ (by simp)).trans g0)
  simp only [World.size_alloc] at g1 g2
  have hz3 : (((w.alloc (.cells #[.int .i64 dim, .slice A q cap] 24)).alloc (.cells #[.int .i64 D] 3)).alloc (.cells #[.int .i64 0, .slice none 0 0] 24)).heap.size = w.heap.size + 3 := by simp
  obtain ⟨W3, hW3⟩ : ∃ W3, ((w.alloc (.cells #[.int .i64 dim, .slice A q cap] 24)).alloc (.cells #[.int .i64 D] 3)).alloc (.cells #[.int .i64 0, .slice none 0 0] 24) = W3 := ⟨_, rfl⟩
  have hT' := isTB_true.2 hT
  simp only [hW3] at hb3 g0 g1 g2 hz3
  obtain ⟨e0, e1⟩ := Boxed2.cells g0
  have e2 := Boxed.cell g1
  gi_wp2_with (first | (refine ⟨trivial, ?_⟩; gi_at_call 32; refine (callsIn_wide.2 (HI.out _ hb3)).mono ?_; rintro e w1 ⟨rfl, hb1⟩; rw [hT']; have hz1 := hb1.size; have k0 := hb1.block _ (show w.heap.size < W3.heap.size by omega); have k1 := hb1.block _ (show w.heap.size + 1 < W3.heap.size by omega); have k2 := hb1.block _ (show w.heap.size + 2 < W3.heap.size by omega); rw [g0] at k0; rw [g1] at k1; rw [g2] at k2; obtain ⟨c0, c1⟩ := Boxed2.cells k0; have c2 := Boxed.cell k1; have l0 : w.heap.size < w1.heap.size := (by omega); have l1 : w.heap.size + 1 < w1.heap.size := (by omega); have l2 : w.heap.size + 1 + 1 < w1.heap.size := (by omega); have l3 : w.heap.size < w1.heap.size + 1 := (by omega); have l4 : w.heap.size < w1.heap.size + 1 + 1 := (by omega)) | (gi_at_make; refine mkIn _ rfl _ _ 29 rfl eltI q rfl rfl (by omega) ?_) | (refine ⟨trivial, ?_⟩; gi_at_call 31; refine (callsIn_wide.2 (HW.out _ (((((hb3.trans (hb1.mono hb3.size)).alloc (by omega) _).alloc (by simp; omega) _).alloc (by simp; omega) _)))).mono ?_; rintro e w' ⟨rfl, rfl⟩))
  have hb0 : Below w.heap.size w (((w1.alloc (.cells #[.int .i64 dim, .slice none 0 0] 24)).alloc (.cells (Array.replicate q (.int .i64 0)) 3)).alloc (.cells #[.slice (some ⟨w1.heap.size + 1, 0, none⟩) q q] 29)) := (((hb3.trans (hb1.mono hb3.size)).alloc (by omega) _).alloc (by simp; omega) _).alloc (by simp; omega) _
  obtain ⟨b1, hb1z⟩ : ∃ b1, w1.heap.size = b1 := ⟨_, rfl⟩
  have p0 := heap_alloc_new w1 (.cells #[.int .i64 dim, .slice none 0 0] 24)
  have p1 := heap_alloc_new (w1.alloc (.cells #[.int .i64 dim, .slice none 0 0] 24)) (.cells (Array.replicate q (.int .i64 0)) 3)
  have p2 := heap_alloc_new ((w1.alloc (.cells #[.int .i64 dim, .slice none 0 0] 24)).alloc (.cells (Array.replicate q (.int .i64 0)) 3)) (.cells #[.slice (some ⟨w1.heap.size + 1, 0, none⟩) q q] 29)
  replace p1 := (Below.heap_alloc _ (.cells #[.slice (some ⟨w1.heap.size + 1, 0, none⟩) q q] 29) _ (by simp)).trans p1
  replace p0 := (Below.heap_alloc _ (.cells #[.slice (some ⟨w1.heap.size + 1, 0, none⟩) q q] 29) _ (by simp; omega)).trans ((Below.heap_alloc _ (.cells (Array.replicate q (.int .i64 0)) 3) _ (by simp)).trans p0)
  replace k0 := (below_a3 w1 (.cells #[.int .i64 dim, .slice none 0 0] 24) (.cells (Array.replicate q (.int .i64 0)) 3) (.cells #[.slice (some ⟨w1.heap.size + 1, 0, none⟩) q q] 29)).block _ l0 |>.trans k0
  replace k1 := (below_a3 w1 (.cells #[.int .i64 dim, .slice none 0 0] 24) (.cells (Array.replicate q (.int .i64 0)) 3) (.cells #[.slice (some ⟨w1.heap.size + 1, 0, none⟩) q q] 29)).block _ l1 |>.trans k1
  replace k2 := (below_a3 w1 (.cells #[.int .i64 dim, .slice none 0 0] 24) (.cells (Array.replicate q (.int .i64 0)) 3) (.cells #[.slice (some ⟨w1.heap.size + 1, 0, none⟩) q q] 29)).block _ l2 |>.trans k2
  have hsz0 : (((w1.alloc (.cells #[.int .i64 dim, .slice none 0 0] 24)).alloc (.cells (Array.replicate q (.int .i64 0)) 3)).alloc (.cells #[.slice (some ⟨w1.heap.size + 1, 0, none⟩) q q] 29)).heap.size = w1.heap.size + 3 := by simp
  simp only [World.size_alloc] at p0 p1 p2
  obtain ⟨W4, hW4⟩ : ∃ W4, ((w1.alloc (.cells #[.int .i64 dim, .slice none 0 0] 24)).alloc (.cells (Array.replicate q (.int .i64 0)) 3)).alloc (.cells #[.slice (some ⟨w1.heap.size + 1, 0, none⟩) q q] 29) = W4 := ⟨_, rfl⟩
  simp only [hW4] at hb0 p0 p1 p2 k0 k1 k2 hsz0 ⊢
  clear hW4 l3 l4
  simp only [hb1z] at p0 p1 p2 hsz0 l0 l1 l2 ⊢
  clear c0 c1 c2 hb1 hz1 hb1z e0 e1 e2 g0 g1 g2 hz3 hb3 hW3 W3 w1
  have hPI : PI w b1 q dim D (.slice A q cap) ([], List.replicate q 0) W4 := ⟨_, [], k0, k1, k2, p0, by unfold RowI; simpa using p1, p2, rfl, World.ownsRow_nil _ _ _ _, fun r hr => (by simp at hr), hb0⟩
  clear p0 p1 p2 k0 k1 k2
  have hI : OwnFrom W4.heap.size (fun (pre : List Vis) W => PI w b1 q dim D (.slice A q cap) (pre.foldl (stepP ls D) ([], List.replicate q 0)) W) := pi_own _ (by omega)
  refine rangeG (F := Fence.wide) rfl (by decide) (gf := 51) (lb := #[.pointer (some ⟨b1 + 3, 0, none⟩)]) rfl trivial (enters_of Tryd.func51 (by kernel_rfl) rfl)
    (Kp := Kp w.heap.size (Cbo (fun k => k = b1 ∨ k = b1 + 1) b1 1) (Wfo (fun k => k = b1 ∨ k = b1 + 1) b1 1)) (vs := vs) (encs := fun x => #[visV x]) ?seq kp_t (kp_b (by simp; omega) (by simp; omega)) (Below.refl _ _) (fun _ => rfl)
    (fun (pre : List Vis) W => PI w b1 q dim D (.slice A q cap) (pre.foldl (stepP ls D) ([], List.replicate q 0)) W) ?own ?start ?round ?done
  case seq =>
    have hst := walk_gives w.heap.size lo dim (.slice A ls.length cap) ls (Cbo (fun k => k = b1 ∨ k = b1 + 1) b1 1) (Wfo (fun k => k = b1 ∨ k = b1 + 1) b1 1) vs hvs cb_a cb_s cb_b cb_x (9 - 1) (b1 + 3) (W4.alloc (.cells #[.int .i64 dim, .slice A q cap] 24)) (by simp; omega) (by simp; omega) (pi_wf (hPI.below (below_a1 _ _)))
    rw [hq] at hst
    have hbt : Boxed2 (W4.alloc (.cells #[.int .i64 dim, .slice A q cap] 24)) (b1 + 3) dim (.slice A q cap) := by rw [← hsz0]; exact heap_alloc_new W4 _
    exact hst (hN.below (hb0.trans ((below_a1 W4 _).mono (by omega)))) hbt.cells.1 hbt.cells.2
  case own => exact pi_own _ (by simp; omega)
  case start => exact hPI.below (below_a1 _ _)
  case round =>
    rintro l pre x W K hl hP hpre hK
    simp only [visV]
    gi_wp2
    refine hK _ _ (fun W' => PI w b1 q dim D (.slice A q cap) (pre.foldl (stepP ls D) ([], List.replicate q 0)) W' ∧ VBox W' W.heap.size x) ((KeepsOthers.alloc _ _).from _) (kp_new _ (by obtain ⟨pv, rs, _, _, _, _, _, _, _, _, _, h10⟩ := hP; exact h10.size) (pi_wf hP)) ⟨hP.below (below_a1 _ _), heap_alloc_new W _⟩
      (OwnFrom.and (pi_own (fun _ => _) (by simp; omega)) (Own.from (vbox_own _ _) _)) ?_
    obtain ⟨Bx, hBx⟩ : ∃ Bx, W.heap.size = Bx := ⟨_, rfl⟩
    have hBx1 : b1 + 2 < Bx := by rw [← hBx]; obtain ⟨pv, rs, _, _, _, _, _, h6, _⟩ := hP; exact h6.lt
    simp only [hBx]
    clear hP hK hBx K W
    have hB1 : w.heap.size + 2 < b1 := l2
    rintro W ⟨r, hr⟩ ⟨hP, bX⟩
    obtain ⟨x0, x1, x2⟩ := bX.cells
    obtain ⟨i, nd, hxi, hnd⟩ := hplace x (hpre.subset (by simp))
    have hi := (List.getElem?_eq_some_iff.1 hnd).1
    rw [hq] at hi
    obtain ⟨⟨out, pl⟩, hst⟩ : ∃ st, pre.foldl (stepP ls D) ([], List.replicate q 0) = st := ⟨_, rfl⟩
    have hst' : (pre ++ [x]).foldl (stepP ls D) ([], List.replicate q 0) = stepP ls D (out, pl) x := by rw [List.foldl_append, hst]; rfl
    rw [hst] at hP
    have hP0 := hP
    obtain ⟨pv, rs, hX, h7⟩ := hP.px
    have hX0 := hX
    obtain ⟨h1, h2, h3, h4, h5, h6, h8, h9, h10⟩ := hX
    dsimp only at h5 h7
    rw [hxi] at x0
    obtain ⟨t0, t1⟩ := h1.cells
    have t2 := h2.cell
    obtain ⟨ad, cv, e1, hbk, d0, d1, d2, d3, d4, hcv⟩ := (hN.below h10).get hnd
    subst e1
    have hcv0 := hcv
    obtain ⟨AC, cc, rfl, hcc1, hcc2, hcr, hcn⟩ := hcv
    obtain ⟨cn, hcn0⟩ : ∃ cn, nd.coef.length = cn := ⟨_, rfl⟩
    rw [hcn0] at d0
    by_cases hdD : D < x.2.2
    · have hgt : decide (D < x.2.2) = true := decide_eq_true hdD
      gi_wp2
      refine ⟨rfl, KeepsFrom.refl _ _, kp_refl _, ?_⟩
      show PI w b1 q dim D _ ((pre ++ [x]).foldl (stepP ls D) ([], List.replicate q 0)) W
      rw [hst']
      unfold stepP
      rw [if_pos hdD]
      exact hP0
    · have hgt : decide (D < x.2.2) = false := decide_eq_false hdD
      have HND := Lib.hid hdD
      have cp := h4.cells.2
      have cq := h6.cell
      have lB := (Array.getElem?_eq_some_iff.1 bX).1
      have lb1 : b1 < W.heap.size := by omega
      have lb2 : b1 + 1 < W.heap.size := by omega
      have lb3 : b1 + 2 < W.heap.size := by omega
      have lt0 : w.heap.size < W.heap.size := by omega
      have lt1 : w.heap.size + 1 < W.heap.size := by omega
      obtain ⟨tb, htb, hvsb⟩ : ∃ tb, At ls 0 tb ∧ vs = visits tb 0 (-1) 0 := hvs.elim (fun ⟨tb, _, e1, e2⟩ => ⟨tb, e1, e2⟩) (fun e => absurd hT e.1)
      rw [hvsb] at hpre
      obtain ⟨kl, ko, kp⟩ := counts (D := D) (dim := dim) (out := out) (pl := pl) htb hpre (by have := hlen; rw [hvsb, visits_len] at this; omega) (by rw [hq]; exact hst)
      have hplen := hpre.length_le
      rw [← hvsb, List.length_append] at hplen
      have hip : i < pl.length := by rw [kl, hq]; exact hi
      obtain ⟨zi, hzi⟩ : ∃ z, pl[i]? = some z := ⟨_, List.getElem?_eq_getElem hip⟩
      have cz := h5.cell hzi
      have fz := h5.frozen (i := i)
      obtain ⟨A2, n2, cap2, hpv, hn2⟩ : ∃ A2 n2 cap2, pv = .slice A2 n2 cap2 ∧ n2 = rs.length := by
        rcases h8.2 with ⟨e, e0⟩ | ⟨g, cp, cur, e, _⟩
        · exact ⟨none, 0, 0, e, e0.symm⟩
        · exact ⟨_, _, _, e, rfl⟩
      have hol : rs.length = out.length := by have := congrArg List.length h7; simpa using this
      rw [hol] at hn2 h8
      subst hn2
      subst hpv
      have hnx : ¬ b1 + 1 = W.heap.size := by omega
      have hW1 := hX0.place i (out.length : Int) hB1
      have hC1 : Ch b1 w.heap.size (Value.slice A2 out.length cap2).ownBlock W (W.setCell ⟨b1 + 1, i, none⟩ (.int .i64 out.length)) := Ch.set _ (by simp; omega) (.inr (.inl rfl))
      have bX1 : VBox (W.setCell ⟨b1 + 1, i, none⟩ (.int .i64 out.length)) Bx x := (Below.heap_setCell _ _ _ _ (by simp; omega)).trans bX
      gi_wp2
      obtain ⟨W1, hW1e⟩ : ∃ W1, W.setCell ⟨b1 + 1, i, none⟩ (.int .i64 out.length) = W1 := ⟨_, rfl⟩
      rw [hW1e] at hW1 hC1 bX1 ⊢
      have hz1 : W.heap.size = W1.heap.size := by rw [← hW1e]; simp
      have hW2 := hW1.below (below_a1 W1 (.cells #[.slice AC cn cc, .int .i64 nd.at_, .int .i64 nd.left, .int .i64 nd.right, .int .i64 nd.size] 39))
      have hC2 := hC1.trans (Ch.of_below (below_a1 W1 (.cells #[.slice AC cn cc, .int .i64 nd.at_, .int .i64 nd.left, .int .i64 nd.right, .int .i64 nd.size] 39)) (by have := hC1.1.size; omega))
      have bX2 : VBox (W1.alloc (.cells #[.slice AC cn cc, .int .i64 nd.at_, .int .i64 nd.left, .int .i64 nd.right, .int .i64 nd.size] 39)) Bx x := (Below.heap_alloc _ _ _ (Array.getElem?_eq_some_iff.1 bX1).1).trans bX1
      have bN2 := heap_alloc_new W1 (.cells #[.slice AC cn cc, .int .i64 nd.at_, .int .i64 nd.left, .int .i64 nd.right, .int .i64 nd.size] 39)
      rw [← hz1] at bN2
      have hz2 : (W1.alloc (.cells #[.slice AC cn cc, .int .i64 nd.at_, .int .i64 nd.left, .int .i64 nd.right, .int .i64 nd.size] 39)).heap.size = W.heap.size + 1 := by simp [hz1]
      obtain ⟨W2, hW2e⟩ : ∃ W2, W1.alloc (.cells #[.slice AC cn cc, .int .i64 nd.at_, .int .i64 nd.left, .int .i64 nd.right, .int .i64 nd.size] 39) = W2 := ⟨_, rfl⟩
      rw [hW2e] at hW2 hC2 bX2 bN2 hz2 ⊢
      clear hW1 hC1 bX1 hz1 hW2e hW1e W1
      obtain ⟨nb, hnb⟩ : ∃ nb, W.heap.size = nb := ⟨_, rfl⟩
      rw [hnb] at bN2 hz2
      simp only [hnb]
      have HX0 := Lib.hid hX0
      clear hX0
      clear cz fz cp cq t0 t1 t2 x0 x1 x2 bX h1 h2 h3 h4 h5 h6 h8 h9 h10 hzi d0 d1 d2 d3 d4 lb1 lb2 lb3 lt0 lt1 hnx hplace
      have hX2 := hW2
      obtain ⟨q1, q2, q3, q4, q5, q6, q8, q9, q10⟩ := hW2
      obtain ⟨t0, t1⟩ := q1.cells
      have t2 := q2.cell
      have cp := q4.cells.2
      have cq := q6.cell
      obtain ⟨x0, x1, x2⟩ := bX2.cells
      have n0 : W2.cell? ⟨nb, 0, none⟩ = some (.slice AC cn cc) := cell_heap bN2 rfl
      have n1 : W2.cell? ⟨nb, 1, none⟩ = some (.int .i64 nd.at_) := cell_heap bN2 rfl
      have n2 : W2.cell? ⟨nb, 2, none⟩ = some (.int .i64 nd.left) := cell_heap bN2 rfl
      have n4 : W2.cell? ⟨nb, 4, none⟩ = some (.int .i64 nd.size) := cell_heap bN2 rfl
      by_cases hp0 : 0 ≤ x.2.1
      · have hp1 : decide (0 ≤ x.2.1) = true := decide_eq_true hp0
        obtain ⟨j, md, z, hxj, hmd, hlt, hz, hzo⟩ := kp (by omega) hp0
        have hjl := (List.getElem?_eq_some_iff.1 hmd).1
        rw [hq] at hjl
        obtain ⟨adm, cvm, em, hbm, dm0, dm1, dm2, dm3, dm4, _⟩ := (hN.below q10).get hmd
        obtain rfl := Option.some.inj em
        rw [hxj] at x1 hp1
        clear dm0 dm1 dm2 dm4
        by_cases hrt : md.right = x.1
        · have hrt1 : decide (md.right = (i : Int)) = true := decide_eq_true (hrt.trans hxi)
          refine quiet_round (by kernel_rfl) (by kernel_rfl) (by kernel_rfl) (fun _ _ h => h) ?_
          repeat (go_big_quiet_step (fail))
          refine wpQuiet_nil ?_
          intro _ hw'
          obtain ⟨nq, rfl⟩ := hw'
          have hXW3 := hX2.drewN nq
          have hCW3 : Ch b1 w.heap.size (Value.slice A2 out.length cap2).ownBlock W (W2.drewN nq) := hC2.trans (Ch.of_below (below_drewN (Below.refl _ _) nq) (by omega))
          have bXW3 : VBox (W2.drewN nq) Bx x := ((below_drewN (Below.refl W2.heap.size W2) nq).block _ (by omega)).trans bX2
          have bNW3 := ((below_drewN (Below.refl W2.heap.size W2) nq).block _ (by omega)).trans bN2
          have hzW3 : (W2.drewN nq).heap.size = nb + 1 := by simpa using hz2
          obtain ⟨W3, hW3⟩ : ∃ W3, W2.drewN nq = W3 := ⟨_, rfl⟩
          rw [hW3] at hXW3 hCW3 bXW3 bNW3 hzW3 ⊢
          clear hW3 nq t0 t1 t2 cp cq x0 x1 x2 n0 n1 n2 n4 q1 q2 q3 q4 q5 q6 q8 q9 q10 hX2 hC2 bX2 bN2 hz2 dm3
          obtain ⟨q1, q2, q3, q4, q5, q6, q8, q9, q10⟩ := id hXW3
          obtain ⟨t0, t1⟩ := q1.cells
          have t2 := q2.cell
          have cp := q4.cells.2
          have cq := q6.cell
          obtain ⟨x0, x1, x2⟩ := bXW3.cells
          have n0 : W3.cell? ⟨nb, 0, none⟩ = some (.slice AC cn cc) := cell_heap bNW3 rfl
          have n1 : W3.cell? ⟨nb, 1, none⟩ = some (.int .i64 nd.at_) := cell_heap bNW3 rfl
          have n2 : W3.cell? ⟨nb, 2, none⟩ = some (.int .i64 nd.left) := cell_heap bNW3 rfl
          have n4 : W3.cell? ⟨nb, 4, none⟩ = some (.int .i64 nd.size) := cell_heap bNW3 rfl
          gi_wp2
          have hzj : (pl.set i (out.length : Int))[j]? = some (z : Int) := by rw [List.getElem?_set_ne (by omega)]; exact hz
          have cj := q5.cell hzj
          rw [hxj] at x1
          obtain ⟨g0, rfl⟩ : ∃ g, A2 = some ⟨g, 0, none⟩ := by
            rcases q8.2 with ⟨e, _⟩ | ⟨g', cap', cur, hv, _⟩
            · injection e with _ e2 _
              exfalso; rw [hol] at *; omega
            · injection hv with e1 _ _
              exact ⟨g', e1⟩
          obtain ⟨hgT, hgb, hgl, hfg⟩ := hXW3.row_ne
          obtain ⟨y, hy⟩ : ∃ y, rs[z]? = some y := ⟨_, List.getElem?_eq_getElem (by omega)⟩
          have cg : ∃ u, W3.cell? ⟨g0, z * 5 + 3, none⟩ = some u := by
            rcases q8.2 with ⟨e, _⟩ | ⟨g', cap', cur, hv, _, hc, _, _, _, ht⟩
            · cases e
            · injection hv with e1 _ _
              obtain rfl := Addr.mk.inj (Option.some.inj e1) |>.1
              have hl : (cur.toList.take (rs.length * 5)).length = rs.length * 5 := by rw [ht, flat_len ndC_len]
              rw [List.length_take] at hl
              have hlt2 : z * 5 + 3 < cur.size := by simp at hl; omega
              exact ⟨_, cell_heap hc (Array.getElem?_eq_getElem hlt2)⟩
          have ne1 : ∀ {k : Nat} {t : TypeId}, Typ W3 k t → t ≠ 39 → g0 ≠ k := fun hk ht e => ht ((show Typ W3 g0 _ from e ▸ hk).eq hgT)
          refine held_round (S := fun w' => w'.cell? ⟨b1, 1, none⟩ = some (.slice (some ⟨g0, 0, none⟩) out.length cap2) ∧ w'.cell? ⟨b1 + 2, 0, none⟩ = some (.slice (some ⟨b1 + 1, 0, none⟩) q q) ∧ w'.cell? ⟨Bx, 1, none⟩ = some (.int .i64 (j : Int)) ∧ w'.cell? ⟨b1 + 1, j, none⟩ = some (.int .i64 (z : Int)) ∧ w'.frozen? ⟨g0, z * 5 + 3, none⟩ = false ∧ (∃ u, w'.cell? ⟨g0, z * 5 + 3, none⟩ = some u)) (by kernel_rfl) (by kernel_rfl) (fun _ _ h => h) ⟨cp, cq, x1, cj, hfg _, cg⟩ (fun hHeld => ?_)
          refine wpAnyH_take (i := 0) (oi := ?oi0_1) (v := ?v0_1) ?hi0_1 (by kernel_rfl) ?hf0_1 (by kernel_rfl) ?hq0_1 ?hy0_1 hHeld ?rest0_1
          case hi0_1 => (simp only [List.getElem?_toArray, List.getElem?_cons_zero]; try exact rfl)
          case hf0_1 => kernel_rfl
          case hq0_1 => exact fun _ _ _ h => absurd h.1 (fun e => by cases e)
          case hy0_1 => (refine Or.inl ⟨rfl, ?_⟩; intro w hSw; (try dsimp only at hSw); go_simp; try with_reducible rfl)
          try simp only [Act.put, List.setIfInBounds_toArray, List.set_cons_zero, List.set_cons_succ]
          refine wpAnyH_take (i := 1) (oi := ?oi1_2) (v := ?v1_2) ?hi1_2 (by kernel_rfl) ?hf1_2 (by kernel_rfl) ?hq1_2 ?hy1_2 hHeld ?rest1_2
          case hi1_2 => (simp only [List.getElem?_toArray, List.getElem?_cons_succ, List.getElem?_cons_zero]; try exact rfl)
          case hf1_2 => kernel_rfl
          case hq1_2 => exact fun _ _ _ h => absurd h.1 (fun e => by cases e)
          case hy1_2 => (refine Or.inl ⟨rfl, ?_⟩; intro w hSw; (try dsimp only at hSw); go_simp; try with_reducible rfl)
          try simp only [Act.put, List.setIfInBounds_toArray, List.set_cons_zero, List.set_cons_succ]
          refine wpAnyH_take (i := 2) (oi := ?oi2_3) (v := ?v2_3) ?hi2_3 (by kernel_rfl) ?hf2_3 (by kernel_rfl) ?hq2_3 ?hy2_3 hHeld ?rest2_3
          case hi2_3 => (simp only [List.getElem?_toArray, List.getElem?_cons_succ, List.getElem?_cons_zero]; try exact rfl)
          case hf2_3 => kernel_rfl
          case hq2_3 => exact fun _ _ _ h => absurd h.1 (fun e => by cases e)
          case hy2_3 => (refine Or.inl ⟨rfl, ?_⟩; intro w hSw; (try dsimp only at hSw); go_simp; try with_reducible rfl)
          try simp only [Act.put, List.setIfInBounds_toArray, List.set_cons_zero, List.set_cons_succ]
          refine wpAnyH_take (i := 3) (oi := ?oi3_4) (v := ?v3_4) ?hi3_4 (by kernel_rfl) ?hf3_4 (by kernel_rfl) ?hq3_4 ?hy3_4 hHeld ?rest3_4
          case hi3_4 => (simp only [List.getElem?_toArray, List.getElem?_cons_succ, List.getElem?_cons_zero]; try exact rfl)
          case hf3_4 => kernel_rfl
          case hq3_4 => exact fun _ _ _ h => absurd h.1 (fun e => by cases e)
          case hy3_4 => (refine Or.inl ⟨rfl, ?_⟩; intro w hSw; (try dsimp only at hSw); go_simp; try with_reducible rfl)
          try simp only [Act.put, List.setIfInBounds_toArray, List.set_cons_zero, List.set_cons_succ]
          refine wpAnyH_take (i := 4) (oi := ?oi4_5) (v := ?v4_5) ?hi4_5 (by kernel_rfl) ?hf4_5 (by kernel_rfl) ?hq4_5 ?hy4_5 hHeld ?rest4_5
          case hi4_5 => (simp only [List.getElem?_toArray, List.getElem?_cons_succ, List.getElem?_cons_zero]; try exact rfl)
          case hf4_5 => kernel_rfl
          case hq4_5 => exact fun _ _ _ h => absurd h.1 (fun e => by cases e)
          case hy4_5 => (refine Or.inl ⟨rfl, ?_⟩; intro w hSw; (try dsimp only at hSw); go_simp; try with_reducible rfl)
          try simp only [Act.put, List.setIfInBounds_toArray, List.set_cons_zero, List.set_cons_succ]
          refine wpAnyH_take (i := 5) (oi := ?oi5_6) (v := ?v5_6) ?hi5_6 (by kernel_rfl) ?hf5_6 (by kernel_rfl) ?hq5_6 ?hy5_6 hHeld ?rest5_6
          case hi5_6 => (simp only [List.getElem?_toArray, List.getElem?_cons_succ, List.getElem?_cons_zero]; try exact rfl)
          case hf5_6 => kernel_rfl
          case hq5_6 => exact fun _ _ _ h => absurd h.1 (fun e => by cases e)
          case hy5_6 => (refine Or.inl ⟨rfl, ?_⟩; intro w hSw; (try dsimp only at hSw); go_simp; try with_reducible rfl)
          try simp only [Act.put, List.setIfInBounds_toArray, List.set_cons_zero, List.set_cons_succ]
          refine wpAnyH_take (i := 6) (oi := ?oi6_7) (v := ?v6_7) ?hi6_7 (by kernel_rfl) ?hf6_7 (by kernel_rfl) ?hq6_7 ?hy6_7 hHeld ?rest6_7
          case hi6_7 => (simp only [List.getElem?_toArray, List.getElem?_cons_succ, List.getElem?_cons_zero]; try exact rfl)
          case hf6_7 => kernel_rfl
          case hq6_7 => exact fun _ _ _ h => absurd h.1 (fun e => by cases e)
          case hy6_7 => (refine Or.inl ⟨rfl, ?_⟩; intro w hSw; (try dsimp only at hSw); go_simp; try with_reducible rfl)
          try simp only [Act.put, List.setIfInBounds_toArray, List.set_cons_zero, List.set_cons_succ]
          refine wpAnyH_take (i := 7) (oi := ?oi7_8) (v := ?v7_8) ?hi7_8 (by kernel_rfl) ?hf7_8 (by kernel_rfl) ?hq7_8 ?hy7_8 hHeld ?rest7_8
          case hi7_8 => (simp only [List.getElem?_toArray, List.getElem?_cons_succ, List.getElem?_cons_zero]; try exact rfl)
          case hf7_8 => kernel_rfl
          case hq7_8 => exact fun _ _ _ h => absurd h.1 (fun e => by cases e)
          case hy7_8 => (refine Or.inl ⟨rfl, ?_⟩; intro w hSw; (try dsimp only at hSw); go_simp; try with_reducible rfl)
          try simp only [Act.put, List.setIfInBounds_toArray, List.set_cons_zero, List.set_cons_succ]
          refine wpAnyH_take (i := 8) (oi := ?oi8_9) (v := ?v8_9) ?hi8_9 (by kernel_rfl) ?hf8_9 (by kernel_rfl) ?hq8_9 ?hy8_9 hHeld ?rest8_9
          case hi8_9 => (simp only [List.getElem?_toArray, List.getElem?_cons_succ, List.getElem?_cons_zero]; try exact rfl)
          case hf8_9 => kernel_rfl
          case hq8_9 => exact fun _ _ _ h => absurd h.1 (fun e => by cases e)
          case hy8_9 => (refine Or.inl ⟨rfl, ?_⟩; intro w hSw; (try dsimp only at hSw); go_simp; try with_reducible rfl)
          try simp only [Act.put, List.setIfInBounds_toArray, List.set_cons_zero, List.set_cons_succ]
          refine wpAnyH_take (i := 9) (oi := ?oi9_10) (v := ?v9_10) ?hi9_10 (by kernel_rfl) ?hf9_10 (by kernel_rfl) ?hq9_10 ?hy9_10 hHeld ?rest9_10
          case hi9_10 => (simp only [List.getElem?_toArray, List.getElem?_cons_succ, List.getElem?_cons_zero]; try exact rfl)
          case hf9_10 => kernel_rfl
          case hq9_10 => exact fun _ _ _ h => absurd h.1 (fun e => by cases e)
          case hy9_10 => (refine Or.inl ⟨rfl, ?_⟩; intro w hSw; (try dsimp only at hSw); go_simp; try with_reducible rfl)
          try simp only [Act.put, List.setIfInBounds_toArray, List.set_cons_zero, List.set_cons_succ]
          refine wpAnyH_take (i := 10) (oi := ?oi10_11) (v := ?v10_11) ?hi10_11 (by kernel_rfl) ?hf10_11 (by kernel_rfl) ?hq10_11 ?hy10_11 hHeld ?rest10_11
          case hi10_11 => (simp only [List.getElem?_toArray, List.getElem?_cons_succ, List.getElem?_cons_zero]; try exact rfl)
          case hf10_11 => kernel_rfl
          case hq10_11 => exact fun _ _ _ h => absurd h.1 (fun e => by cases e)
          case hy10_11 => (refine Or.inl ⟨rfl, ?_⟩; intro w hSw; (try dsimp only at hSw); go_simp; try with_reducible rfl)
          try simp only [Act.put, List.setIfInBounds_toArray, List.set_cons_zero, List.set_cons_succ]
          refine wpAnyH_take (i := 11) (oi := ?oi11_12) (v := ?v11_12) ?hi11_12 (by kernel_rfl) ?hf11_12 (by kernel_rfl) ?hq11_12 ?hy11_12 hHeld ?rest11_12
          case hi11_12 => (simp only [List.getElem?_toArray, List.getElem?_cons_succ, List.getElem?_cons_zero]; try exact rfl)
          case hf11_12 => kernel_rfl
          case hq11_12 => exact fun _ _ _ h => absurd h.1 (fun e => by cases e)
          case hy11_12 => (refine Or.inl ⟨rfl, ?_⟩; intro w hSw; (try dsimp only at hSw); go_simp; try with_reducible rfl)
          try simp only [Act.put, List.setIfInBounds_toArray, List.set_cons_zero, List.set_cons_succ]
          refine wpAnyH_ready (rs := [12]) (by kernel_rfl) (by simp) ?_
          refine AllReadyH.cons (by simp only [List.getElem?_toArray, List.getElem?_cons_succ, List.getElem?_cons_zero]; try exact rfl) (fun K hK => ?_) AllReadyH.nil
          obtain ⟨e0, e1, e2, e3, e4, ⟨u, e5⟩⟩ := hHeld
          go_simp
          refine hK.out _ _ ⟨(World.cell?_setCell_far W3 _ _ _ (ne1 ⟨_, _, q4⟩ (by decide))).trans cp, (World.cell?_setCell_far W3 _ _ _ (ne1 ⟨_, _, q6⟩ (by decide))).trans cq, (World.cell?_setCell_far W3 _ _ _ (ne1 ⟨_, _, bXW3⟩ (by decide))).trans x1, (World.cell?_setCell_far W3 _ _ _ (ne1 ⟨_, _, q5⟩ (by decide))).trans cj, by have := hfg (z * 5 + 3); simpa using this, by obtain ⟨u', e⟩ := cg; obtain ⟨v', e'⟩ := cell?_setCell_some (p := ⟨g0, z * 5 + 3, none⟩) (x := Value.int .i64 out.length) e; exact ⟨v', e'⟩⟩ (fun hHeld => ?_)
          clear hK K
          try simp only [Act.put, List.setIfInBounds_toArray, List.set_cons_zero, List.set_cons_succ]
          refine wpAnyH_done (by kernel_rfl) ?_ _
          refine ⟨rfl, ?_⟩
          have hXs := hXW3.fix z (out.length : Int) hol hB1 hy
          have hX4 := hXs.below (Below.refl _ _).drew
          have hC4 : Ch b1 w.heap.size (Value.slice (some ⟨g0, 0, none⟩) out.length cap2).ownBlock W (W3.setCell ⟨g0, z * 5 + 3, none⟩ (.int .i64 out.length)).drew := (hCW3.trans (Ch.set (a := ⟨g0, z * 5 + 3, none⟩) _ (by show w.heap.size ≤ g0; omega) (.inr (.inr rfl)))).trans (Ch.of_below (Below.refl _ _).drew (by have := hXs.2.2.2.2.2.2.2.2.size; exact this))
          have bX4 : VBox (W3.setCell ⟨g0, z * 5 + 3, none⟩ (.int .i64 out.length)).drew Bx x := (Below.heap_setCell W3 _ _ _ (Ne.symm (ne1 ⟨_, _, bXW3⟩ (by decide)))).trans bXW3
          have bN4 : (W3.setCell ⟨g0, z * 5 + 3, none⟩ (.int .i64 out.length)).drew.heap[nb]? = _ := (Below.heap_setCell W3 _ _ _ (by show nb ≠ g0; have := HX0.out.row_ne.2.2.1; omega)).trans bNW3
          have hz4 : (W3.setCell ⟨g0, z * 5 + 3, none⟩ (.int .i64 out.length)).drew.heap.size = nb + 1 := by show (W3.setCell ⟨g0, z * 5 + 3, none⟩ (.int .i64 out.length)).heap.size = nb + 1; simpa using hzW3
          obtain ⟨W4, hW4⟩ : ∃ W4, (W3.setCell ⟨g0, z * 5 + 3, none⟩ (.int .i64 out.length)).drew = W4 := ⟨_, rfl⟩
          rw [hW4] at hX4 hC4 bX4 bN4 hz4 ⊢
          have hR : (rs.set z (y.1, setR y.2 out.length)).map (·.2) = fixR ls out (pl.set i out.length) x := fixR_eq h7 hmd hxj hrt hzj hy
          obtain ⟨rs3, hrs3⟩ : ∃ r, rs.set z (y.1, setR y.2 out.length) = r := ⟨_, rfl⟩
          have hl3 : rs3.length = out.length := by rw [← hrs3, List.length_set]; exact hol
          rw [hrs3] at hX4 hR
          clear hHeld hW4 hXs hXW3 hCW3 bXW3 bNW3 hzW3 t0 t1 t2 cp cq x0 x1 x2 n0 n1 n2 n4 q1 q2 q3 q4 q5 q6 q8 q9 q10 cj cg ne1 hfg
          obtain ⟨q1, q2, q3, q4, q5, q6, q8, q9, q10⟩ := id hX4
          obtain ⟨t0, t1⟩ := q1.cells
          have t2 := q2.cell
          have cp := q4.cells.2
          have cq := q6.cell
          obtain ⟨x0, x1, x2⟩ := bX4.cells
          have n0 : W4.cell? ⟨nb, 0, none⟩ = some (.slice AC cn cc) := cell_heap bN4 rfl
          have n1 : W4.cell? ⟨nb, 1, none⟩ = some (.int .i64 nd.at_) := cell_heap bN4 rfl
          have n2 : W4.cell? ⟨nb, 2, none⟩ = some (.int .i64 nd.left) := cell_heap bN4 rfl
          have n4 : W4.cell? ⟨nb, 4, none⟩ = some (.int .i64 nd.size) := cell_heap bN4 rfl
          by_cases hlf : 0 < nd.left ∧ x.2.2 < D
          · skip
            obtain ⟨hco1, hco2⟩ := fork_coef hT hnd hlf.1
            rw [hcn0] at hco1 hco2
            obtain ⟨ac, rfl⟩ : ∃ ac, AC = some ac := by
              obtain ⟨ac, e, _⟩ := hcr.2 (by omega)
              exact ⟨ac, e⟩
            have hX5 := hX4.below (below_a1 W4 (.cells #[.slice none 0 0, .int .i64 0, .int .i64 0, .int .i64 0, .int .i64 nd.size] 39))
            have hC5 := hC4.trans (Ch.of_below (below_a1 W4 (.cells #[.slice none 0 0, .int .i64 0, .int .i64 0, .int .i64 0, .int .i64 nd.size] 39)) (by omega))
            have hz5 : (W4.alloc (.cells #[.slice none 0 0, .int .i64 0, .int .i64 0, .int .i64 0, .int .i64 nd.size] 39)).heap.size = nb + 1 + 1 := by simp [hz4]
            have bM := heap_alloc_new W4 (.cells #[.slice none 0 0, .int .i64 0, .int .i64 0, .int .i64 0, .int .i64 nd.size] 39)
            rw [hz4] at bM
            have n0m := (below_a1 W4 (.cells #[.slice none 0 0, .int .i64 0, .int .i64 0, .int .i64 0, .int .i64 nd.size] 39)).cell (p := ⟨nb, 0, none⟩) (by show nb < _; omega) |>.trans n0
            have n1m := (below_a1 W4 (.cells #[.slice none 0 0, .int .i64 0, .int .i64 0, .int .i64 0, .int .i64 nd.size] 39)).cell (p := ⟨nb, 1, none⟩) (by show nb < _; omega) |>.trans n1
            have cpm := (below_a1 W4 (.cells #[.slice none 0 0, .int .i64 0, .int .i64 0, .int .i64 0, .int .i64 nd.size] 39)).cell (p := ⟨b1, 1, none⟩) (by show b1 < _; omega) |>.trans cp
            have lb1 : b1 < nb + 1 := by omega
            have lb2 : Bx < nb + 1 := by omega
            have lb3 : w.heap.size < nb + 1 := by omega
            have lb4 : w.heap.size + 1 < nb + 1 := by omega
            have lb5 : nb < nb + 1 := by omega
            gi_wp2
            all_goals try (rename_i hh1 hh2; exfalso; first | (simp [hlf] at hh1 hh2; done) | (simp at hh1 hh2; omega))
            all_goals try (rename_i hh1; exfalso; first | (simp [hlf] at hh1; done) | (simp at hh1; omega))
            obtain ⟨Wm, hWm⟩ : ∃ Wm, W4.alloc (.cells #[.slice none 0 0, .int .i64 0, .int .i64 0, .int .i64 0, .int .i64 nd.size] 39) = Wm := ⟨_, rfl⟩
            rw [hWm] at hX5 hC5 hz5 bM n0m n1m cpm ⊢
            clear hWm n0 n1 n2 n4 x0 x1 x2 cp cq t0 t1 t2
            have hwl : IntKind.i64.wrap ((out.length : Int) + 1) = (out.length : Int) + 1 := IntWalk.i64_in _ (by omega)
            have hbe := below_a1 Wm.drew (.cells #[] 3)
            have hzd : Wm.drew.heap.size = nb + 1 + 1 := hz5
            have hXd := hX5.below (Below.refl Wm.heap.size Wm).drew
            have hCd := hC5.trans (Ch.of_below (Below.refl Wm.heap.size Wm).drew (by omega))
            have bMd : Wm.drew.heap[nb + 1]? = _ := bM
            refine held_round (S := fun w' => w'.cell? ⟨nb, 0, none⟩ = some (.slice (some ac) cn cc) ∧ w'.cell? ⟨nb, 1, none⟩ = some (.int .i64 nd.at_) ∧ w'.cell? ⟨b1, 1, none⟩ = some (.slice (some ⟨g0, 0, none⟩) out.length cap2)) (by kernel_rfl) (by kernel_rfl) (fun _ _ h => h) ⟨n0m, n1m, cpm⟩ (fun hHeld => ?_)
            obtain ⟨Wd, hWd⟩ : ∃ Wd, Wm.drew = Wd := ⟨_, rfl⟩
            rw [hWd] at hHeld hbe hzd hXd bMd hCd ⊢
            clear hWd n0m n1m cpm hX5 bM hC5 hz5 Wm
            obtain ⟨n0m, n1m, cpm⟩ := id hHeld
            refine wpAnyH_take (i := 1) (oi := ?oi1_13) (v := ?v1_13) ?hi1_13 (by kernel_rfl) ?hf1_13 (by kernel_rfl) ?hq1_13 ?hy1_13 hHeld ?rest1_13
            case hi1_13 => (simp only [List.getElem?_toArray, List.getElem?_cons_succ, List.getElem?_cons_zero]; try exact rfl)
            case hf1_13 => kernel_rfl
            case hq1_13 => exact fun _ _ _ h => absurd h.1 (fun e => by cases e)
            case hy1_13 => (refine Or.inl ⟨rfl, ?_⟩; intro w hSw; (try dsimp only at hSw); go_simp; try with_reducible rfl)
            try simp only [Act.put, List.setIfInBounds_toArray, List.set_cons_zero, List.set_cons_succ]
            refine wpAnyH_take (i := 2) (oi := ?oi2_14) (v := ?v2_14) ?hi2_14 (by kernel_rfl) ?hf2_14 (by kernel_rfl) ?hq2_14 ?hy2_14 hHeld ?rest2_14
            case hi2_14 => (simp only [List.getElem?_toArray, List.getElem?_cons_succ, List.getElem?_cons_zero]; try exact rfl)
            case hf2_14 => kernel_rfl
            case hq2_14 => exact fun _ _ _ h => absurd h.1 (fun e => by cases e)
            case hy2_14 => (refine Or.inl ⟨rfl, ?_⟩; intro w hSw; (try dsimp only at hSw); go_simp; try with_reducible rfl)
            try simp only [Act.put, List.setIfInBounds_toArray, List.set_cons_zero, List.set_cons_succ]
            refine wpAnyH_take (i := 3) (oi := ?oi3_15) (v := ?v3_15) ?hi3_15 (by kernel_rfl) ?hf3_15 (by kernel_rfl) ?hq3_15 ?hy3_15 hHeld ?rest3_15
            case hi3_15 => (simp only [List.getElem?_toArray, List.getElem?_cons_succ, List.getElem?_cons_zero]; try exact rfl)
            case hf3_15 => kernel_rfl
            case hq3_15 => exact fun _ _ _ h => absurd h.1 (fun e => by cases e)
            case hy3_15 => (refine Or.inl ⟨rfl, ?_⟩; intro w hSw; (try dsimp only at hSw); go_simp; try with_reducible rfl)
            try simp only [Act.put, List.setIfInBounds_toArray, List.set_cons_zero, List.set_cons_succ]
            refine wpAnyH_take (i := 5) (oi := ?oi5_16) (v := ?v5_16) ?hi5_16 (by kernel_rfl) ?hf5_16 (by kernel_rfl) ?hq5_16 ?hy5_16 hHeld ?rest5_16
            case hi5_16 => (simp only [List.getElem?_toArray, List.getElem?_cons_succ, List.getElem?_cons_zero]; try exact rfl)
            case hf5_16 => kernel_rfl
            case hq5_16 => exact fun _ _ _ h => absurd h.1 (fun e => by cases e)
            case hy5_16 => (refine Or.inl ⟨rfl, ?_⟩; intro w hSw; (try dsimp only at hSw); go_simp; try with_reducible rfl)
            try simp only [Act.put, List.setIfInBounds_toArray, List.set_cons_zero, List.set_cons_succ]
            refine wpAnyH_take (i := 6) (oi := ?oi6_17) (v := ?v6_17) ?hi6_17 (by kernel_rfl) ?hf6_17 (by kernel_rfl) ?hq6_17 ?hy6_17 hHeld ?rest6_17
            case hi6_17 => (simp only [List.getElem?_toArray, List.getElem?_cons_succ, List.getElem?_cons_zero]; try exact rfl)
            case hf6_17 => kernel_rfl
            case hq6_17 => exact fun _ _ _ h => absurd h.1 (fun e => by cases e)
            case hy6_17 => (refine Or.inl ⟨rfl, ?_⟩; intro w hSw; (try dsimp only at hSw); go_simp; try with_reducible rfl)
            try simp only [Act.put, List.setIfInBounds_toArray, List.set_cons_zero, List.set_cons_succ]
            refine wpAnyH_take (i := 7) (oi := ?oi7_18) (v := ?v7_18) ?hi7_18 (by kernel_rfl) ?hf7_18 (by kernel_rfl) ?hq7_18 ?hy7_18 hHeld ?rest7_18
            case hi7_18 => (simp only [List.getElem?_toArray, List.getElem?_cons_succ, List.getElem?_cons_zero]; try exact rfl)
            case hf7_18 => kernel_rfl
            case hq7_18 => exact fun _ _ _ h => absurd h.1 (fun e => by cases e)
            case hy7_18 => (refine Or.inl ⟨rfl, ?_⟩; intro w hSw; (try dsimp only at hSw); go_simp; try with_reducible rfl)
            try simp only [Act.put, List.setIfInBounds_toArray, List.set_cons_zero, List.set_cons_succ]
            refine wpAnyH_take (i := 9) (oi := ?oi9_19) (v := ?v9_19) ?hi9_19 (by kernel_rfl) ?hf9_19 (by kernel_rfl) ?hq9_19 ?hy9_19 hHeld ?rest9_19
            case hi9_19 => (simp only [List.getElem?_toArray, List.getElem?_cons_succ, List.getElem?_cons_zero]; try exact rfl)
            case hf9_19 => kernel_rfl
            case hq9_19 => exact fun _ _ _ h => absurd h.1 (fun e => by cases e)
            case hy9_19 => (refine Or.inl ⟨rfl, ?_⟩; intro w hSw; (try dsimp only at hSw); go_simp; try with_reducible rfl)
            try simp only [Act.put, List.setIfInBounds_toArray, List.set_cons_zero, List.set_cons_succ]
            refine wpAnyH_take (i := 10) (oi := ?oi10_20) (v := ?v10_20) ?hi10_20 (by kernel_rfl) ?hf10_20 (by kernel_rfl) ?hq10_20 ?hy10_20 hHeld ?rest10_20
            case hi10_20 => (simp only [List.getElem?_toArray, List.getElem?_cons_succ, List.getElem?_cons_zero]; try exact rfl)
            case hf10_20 => kernel_rfl
            case hq10_20 => exact fun _ _ _ h => absurd h.1 (fun e => by cases e)
            case hy10_20 => (refine Or.inl ⟨rfl, ?_⟩; intro w hSw; (try dsimp only at hSw); go_simp; try with_reducible rfl)
            try simp only [Act.put, List.setIfInBounds_toArray, List.set_cons_zero, List.set_cons_succ]
            refine wpAnyH_take (i := 11) (oi := ?oi11_21) (v := ?v11_21) ?hi11_21 (by kernel_rfl) ?hf11_21 (by kernel_rfl) ?hq11_21 ?hy11_21 hHeld ?rest11_21
            case hi11_21 => (simp only [List.getElem?_toArray, List.getElem?_cons_succ, List.getElem?_cons_zero]; try exact rfl)
            case hf11_21 => kernel_rfl
            case hq11_21 => exact fun _ _ _ h => absurd h.1 (fun e => by cases e)
            case hy11_21 => (refine Or.inl ⟨rfl, ?_⟩; intro w hSw; (try dsimp only at hSw); go_simp; try with_reducible rfl)
            try simp only [Act.put, List.setIfInBounds_toArray, List.set_cons_zero, List.set_cons_succ]
            refine wpAnyH_take (i := 12) (oi := ?oi12_22) (v := ?v12_22) ?hi12_22 (by kernel_rfl) ?hf12_22 (by kernel_rfl) ?hq12_22 ?hy12_22 hHeld ?rest12_22
            case hi12_22 => (simp only [List.getElem?_toArray, List.getElem?_cons_succ, List.getElem?_cons_zero]; try exact rfl)
            case hf12_22 => kernel_rfl
            case hq12_22 => exact fun _ _ _ h => absurd h.1 (fun e => by cases e)
            case hy12_22 => (refine Or.inl ⟨rfl, ?_⟩; intro w hSw; (try dsimp only at hSw); go_simp; try with_reducible rfl)
            try simp only [Act.put, List.setIfInBounds_toArray, List.set_cons_zero, List.set_cons_succ]
            refine wpAnyH_ready (rs := [0]) (by kernel_rfl) (by simp) ?_
            refine AllReadyH.cons (by simp only [List.getElem?_toArray, List.getElem?_cons_zero]; try exact rfl) (fun K hK => ?_) AllReadyH.nil
            go_simp
            refine hK.out _ _ ?_ (fun hHeld => ?_)
            · exact ⟨(hbe.cell (by show nb < _; omega)).trans n0m, (hbe.cell (by show nb < _; omega)).trans n1m, (hbe.cell (by show b1 < _; omega)).trans cpm⟩
            clear hK K
            try simp only [Act.put, List.setIfInBounds_toArray, List.set_cons_zero, List.set_cons_succ]
            obtain ⟨we, hwe⟩ : ∃ we, Wd.alloc (.cells #[] 3) = we := ⟨_, rfl⟩
            rw [hwe] at hHeld ⊢
            have hoe := own_empty Wd 3
            rw [hwe] at hoe hbe
            have hse : we.heap.size = nb + 1 + 1 + 1 := by rw [← hwe]; simpa using hzd
            have hne : ∀ j u, (nd.coef.map (Value.int .i64))[j]? = some u → we.cell? (ac.add j) = some u := seq_news (hcv0.below (hCd.1.trans (hbe.mono (by omega))))
            refine wpAnyH_ready (rs := [4]) (by kernel_rfl) (by simp) ?_
            refine AllReadyH.cons (by simp only [List.getElem?_toArray, List.getElem?_cons_succ, List.getElem?_cons_zero]; try exact rfl) (fun K hK => ?_) AllReadyH.nil
            refine stepL rfl (.tmp 86) (.tmp 89) _ rfl eltI Wd.heap.size (.slice (some ⟨Wd.heap.size, 0, none⟩) 0 0) 0 cn cc ac [] (nd.coef.map (Value.int .i64)) ?s1_23 hoe rfl (by simp [hcn0]) hne (oneCells_int _ _) hco1 (by omega) (by omega) ?s2_23
            case s1_23 => (simp only [Act.eval]; first | rfl | (go_simp; done))
            intro g cc' w1 hown hgrow hat hlt1
            have hb1 : Below Wd.heap.size Wd w1 := hbe.grown hgrow (by omega) (fun k e => by simp [Value.ownBlock] at e; omega)
            have hM1 := (hb1.block (nb + 1) (by omega)).trans bMd
            have m0 : w1.cell? ⟨nb + 1, 0, none⟩ = some (.slice none 0 0) := cell_heap hM1 rfl
            have m1 : w1.cell? ⟨nb + 1, 1, none⟩ = some (.int .i64 0) := cell_heap hM1 rfl
            have m2 : w1.cell? ⟨nb + 1, 2, none⟩ = some (.int .i64 0) := cell_heap hM1 rfl
            have fm : ∀ j, w1.frozen? ⟨nb + 1, j, none⟩ = false := fun j => by simp [World.frozen?, hM1]
            have hkeep := And.intro ((hb1.cell (p := ⟨nb, 0, none⟩) (by show nb < _; omega)).trans n0m) (And.intro ((hb1.cell (p := ⟨nb, 1, none⟩) (by show nb < _; omega)).trans n1m) ((hb1.cell (p := ⟨b1, 1, none⟩) (by show b1 < _; omega)).trans cpm))
            refine hK.out _ _ ?_ (fun hHeld => ?_)
            · exact hkeep
            clear hK K
            try simp only [Act.put, List.setIfInBounds_toArray, List.set_cons_zero, List.set_cons_succ]
            refine wpAnyH_take (i := 8) (oi := ?oi8_24) (v := ?v8_24) ?hi8_24 (by kernel_rfl) ?hf8_24 (by kernel_rfl) ?hq8_24 ?hy8_24 hHeld ?rest8_24
            case hi8_24 => (simp only [List.getElem?_toArray, List.getElem?_cons_succ, List.getElem?_cons_zero]; try exact rfl)
            case hf8_24 => kernel_rfl
            case hq8_24 => exact fun _ _ _ h => absurd h.1 (fun e => by cases e)
            case hy8_24 => (refine Or.inl ⟨rfl, ?_⟩; intro w hSw; (try dsimp only at hSw); go_simp; try with_reducible rfl)
            try simp only [Act.put, List.setIfInBounds_toArray, List.set_cons_zero, List.set_cons_succ]
            refine wpAnyH_take (i := 13) (oi := ?oi13_25) (v := ?v13_25) ?hi13_25 (by kernel_rfl) ?hf13_25 (by kernel_rfl) ?hq13_25 ?hy13_25 hHeld ?rest13_25
            case hi13_25 => (simp only [List.getElem?_toArray, List.getElem?_cons_succ, List.getElem?_cons_zero]; try exact rfl)
            case hf13_25 => kernel_rfl
            case hq13_25 => exact fun _ _ _ h => absurd h.1 (fun e => by cases e)
            case hy13_25 => (refine Or.inl ⟨rfl, ?_⟩; intro w hSw; (try dsimp only at hSw); go_simp; try with_reducible rfl)
            try simp only [Act.put, List.setIfInBounds_toArray, List.set_cons_zero, List.set_cons_succ]
            refine wpAnyH_ready (rs := [14]) (by kernel_rfl) (by simp) ?_
            refine AllReadyH.cons (by simp only [List.getElem?_toArray, List.getElem?_cons_succ, List.getElem?_cons_zero]; try exact rfl) (fun K hK => ?_) AllReadyH.nil
            go_simp
            refine hK.out _ _ ?_ (fun hHeld => ?_)
            · first | exact ⟨by go_simp, by go_simp, by go_simp⟩ | (obtain ⟨e0, e1, e2⟩ := hHeld; refine ⟨?_, ?_, ?_⟩ <;> (go_simp; done))
            clear hK K
            try simp only [Act.put, List.setIfInBounds_toArray, List.set_cons_zero, List.set_cons_succ]
            refine wpAnyH_take (i := 15) (oi := ?oi15_26) (v := ?v15_26) ?hi15_26 (by kernel_rfl) ?hf15_26 (by kernel_rfl) ?hq15_26 ?hy15_26 hHeld ?rest15_26
            case hi15_26 => (simp only [List.getElem?_toArray, List.getElem?_cons_succ, List.getElem?_cons_zero]; try exact rfl)
            case hf15_26 => kernel_rfl
            case hq15_26 => exact fun _ _ _ h => absurd h.1 (fun e => by cases e)
            case hy15_26 => (refine Or.inl ⟨rfl, ?_⟩; intro w hSw; (try dsimp only at hSw); go_simp; try with_reducible rfl)
            try simp only [Act.put, List.setIfInBounds_toArray, List.set_cons_zero, List.set_cons_succ]
            refine wpAnyH_ready (rs := [16]) (by kernel_rfl) (by simp) ?_
            refine AllReadyH.cons (by simp only [List.getElem?_toArray, List.getElem?_cons_succ, List.getElem?_cons_zero]; try exact rfl) (fun K hK => ?_) AllReadyH.nil
            go_simp
            refine hK.out _ _ ?_ (fun hHeld => ?_)
            · first | exact ⟨by go_simp, by go_simp, by go_simp⟩ | (obtain ⟨e0, e1, e2⟩ := hHeld; refine ⟨?_, ?_, ?_⟩ <;> (go_simp; done))
            clear hK K
            try simp only [Act.put, List.setIfInBounds_toArray, List.set_cons_zero, List.set_cons_succ]
            refine wpAnyH_done (by kernel_rfl) ?_ _
            refine ⟨rfl, ?_⟩
            simp only [Nat.zero_add, List.nil_append] at hown
            try rw [hwl]
            have hnv : ((.slice (some ⟨g0, 0, none⟩) out.length cap2) : Value).ownBlock ≠ some (nb + 1) := fun e => by have := (own_typ HX0.out.2.2.2.2.2.2.1 _ e).2.2; omega
            obtain ⟨hX6, bM6, hCV6, hk6, hz6, hb6⟩ := forkBox (a1 := nd.at_) (l1 := (out.length : Int) + 1) hXd bMd hnv (by omega) (by omega) hb1 hown
            obtain ⟨W6, hW6⟩ : ∃ W6, ((w1.setCell ⟨nb + 1, 0, none⟩ (.slice (some ⟨g, 0, none⟩) cn cc')).setCell ⟨nb + 1, 1, none⟩ (.int .i64 nd.at_)).setCell ⟨nb + 1, 2, none⟩ (.int .i64 ((out.length : Int) + 1)) = W6 := ⟨_, rfl⟩
            rw [hW6] at hX6 bM6 hCV6 hk6 hz6 hb6 ⊢
            have hC6 : Ch b1 w.heap.size ((.slice (some ⟨g0, 0, none⟩) out.length cap2) : Value).ownBlock W W6 := ⟨hCd.1.trans hb6, fun k hk e1 e2 e3 => (hk6 k (by omega) (by omega)).trans (hCd.2 k hk e1 e2 e3)⟩
            clear hW6 hHeld hkeep fm m0 m1 m2 hM1 hb1 hgrow hat hlt1 hown hne hoe hbe hwe
            obtain ⟨t0, t1⟩ := hX6.1.cells
            have cp := hX6.2.2.2.1.cells.2
            have m0 : W6.cell? ⟨nb + 1, 0, none⟩ = some (.slice (some ⟨g, 0, none⟩) cn cc') := cell_heap bM6 rfl
            have m1 : W6.cell? ⟨nb + 1, 1, none⟩ = some (.int .i64 nd.at_) := cell_heap bM6 rfl
            have m2 : W6.cell? ⟨nb + 1, 2, none⟩ = some (.int .i64 ((out.length : Int) + 1)) := cell_heap bM6 rfl
            have m3 : W6.cell? ⟨nb + 1, 3, none⟩ = some (.int .i64 0) := cell_heap bM6 rfl
            have m4 : W6.cell? ⟨nb + 1, 4, none⟩ = some (.int .i64 nd.size) := cell_heap bM6 rfl
            obtain ⟨s6, hs6⟩ : ∃ s, W6.heap.size = s := ⟨_, rfl⟩
            have lb6 : nb + 1 < s6 := by omega
            have lb7 : b1 < s6 := by omega
            have hLEN : rs3.length = out.length := by first | exact hol | exact hl3 | (rw [List.length_set]; exact hol)
            have hOWN := hX6.2.2.2.2.2.2.1.alloc (.cells #[.slice (some ⟨g, 0, none⟩) cn cc', .int .i64 nd.at_, .int .i64 ((out.length : Int) + 1), .int .i64 0, .int .i64 nd.size] 39)
            rw [hLEN] at hOWN
            have hNEWS := World.news_of_block (heap_alloc_new W6 (.cells #[.slice (some ⟨g, 0, none⟩) cn cc', .int .i64 nd.at_, .int .i64 ((out.length : Int) + 1), .int .i64 0, .int .i64 nd.size] 39))
            rw [hs6] at hNEWS
            have hSZ : (W6.alloc (.cells #[.slice (some ⟨g, 0, none⟩) cn cc', .int .i64 nd.at_, .int .i64 ((out.length : Int) + 1), .int .i64 0, .int .i64 nd.size] 39)).heap.size = s6 + 1 := by simp [hs6]
            have hCV : W6.ownsRow (b1 + 2) 3 1 (.slice (some ⟨g, 0, none⟩) cn cc') (⟨nd.coef, nd.at_, (out.length : Int) + 1, 0, nd.size⟩ : Nd).coef.length ((⟨nd.coef, nd.at_, (out.length : Int) + 1, 0, nd.size⟩ : Nd).coef.map (Value.int .i64)) := by dsimp only; rw [hcn0]; exact hCV6
            gi_wp2_with (gi_at_builtin; refine listIn rfl _ _ 22 rfl eltN b1 (.slice (some ⟨g0, 0, none⟩) out.length cap2) out.length 1 1 ⟨s6, 0, none⟩ (rs3.flatMap ndC) (ndC (.slice (some ⟨g, 0, none⟩) cn cc', ⟨nd.coef, nd.at_, (out.length : Int) + 1, 0, nd.size⟩)) rfl hOWN rfl rfl hNEWS (ndC_one _ _ _ _ _ rfl) (by omega) (by omega) (by have := hX6.2.2.2.2.2.2.2.2.size; simp; omega) (s6 + 1) hSZ ?_; intro g2 cap' w2 hown' hgrow hat hlt; obtain ⟨hX7, hC7, hc7, hf7⟩ := hX6.app hLEN hB1 hCV hown' hgrow (hat.imp id (fun e => by omega)))
            obtain ⟨k1, k2, k3⟩ := round_end (B := b1 + 3 + 1) HX0.out hX7 (hC6.trans hC7) (fun g' hg' => by simp [Value.ownBlock] at hg'; subst hg'; exact hat.imp id (fun e => by omega)) (show (rs3 ++ [(Value.slice (some ⟨g, 0, none⟩) cn cc', (⟨nd.coef, nd.at_, (out.length : Int) + 1, 0, nd.size⟩ : Nd))]).map (·.2) = fixR ls out (pl.set i out.length) x ++ [newN nd x D out.length] by rw [List.map_append, hR, newN, if_pos hlf]; rfl)
            refine ⟨rfl, k1, k2, ?_⟩
            show PI w b1 q dim D _ ((pre ++ [x]).foldl (stepP ls D) ([], List.replicate q 0)) _
            rw [hst', stepP_eq (by have := HND.out; omega) hxi hnd]
            exact k3
          · skip
            have hX5 := hX4.below (below_a1 W4 (.cells #[.slice none 0 0, .int .i64 0, .int .i64 0, .int .i64 0, .int .i64 nd.size] 39))
            have hC5 := hC4.trans (Ch.of_below (below_a1 W4 (.cells #[.slice none 0 0, .int .i64 0, .int .i64 0, .int .i64 0, .int .i64 nd.size] 39)) (by omega))
            have hz5 : (W4.alloc (.cells #[.slice none 0 0, .int .i64 0, .int .i64 0, .int .i64 0, .int .i64 nd.size] 39)).heap.size = nb + 1 + 1 := by simp [hz4]
            have hOWN := hX5.2.2.2.2.2.2.1.alloc (.cells #[.slice none 0 0, .int .i64 0, .int .i64 0, .int .i64 0, .int .i64 nd.size] 39)
            have hNEWS := World.news_of_block (heap_alloc_new (W4.alloc (.cells #[.slice none 0 0, .int .i64 0, .int .i64 0, .int .i64 0, .int .i64 nd.size] 39)) (.cells #[.slice none 0 0, .int .i64 0, .int .i64 0, .int .i64 0, .int .i64 nd.size] 39))
            have hLEN : rs3.length = out.length := by first | exact hol | exact hl3 | (rw [List.length_set]; exact hol)
            rw [hLEN] at hOWN
            rw [hz5] at hNEWS
            have hSZ : ((W4.alloc (.cells #[.slice none 0 0, .int .i64 0, .int .i64 0, .int .i64 0, .int .i64 nd.size] 39)).alloc (.cells #[.slice none 0 0, .int .i64 0, .int .i64 0, .int .i64 0, .int .i64 nd.size] 39)).heap.size = nb + 1 + 1 + 1 := by simp [hz4]
            have hCV : (W4.alloc (.cells #[.slice none 0 0, .int .i64 0, .int .i64 0, .int .i64 0, .int .i64 nd.size] 39)).ownsRow (b1 + 2) 3 1 (.slice none 0 0) (⟨[], 0, 0, 0, nd.size⟩ : Nd).coef.length ((⟨[], 0, 0, 0, nd.size⟩ : Nd).coef.map (Value.int .i64)) := World.ownsRow_nil _ _ _ _
            have lb1 : b1 < nb + 1 := by omega
            have lb2 : Bx < nb + 1 := by omega
            have lb3 : w.heap.size < nb + 1 := by omega
            have lb4 : w.heap.size + 1 < nb + 1 := by omega
            have lb5 : nb < nb + 1 := by omega
            gi_wp2_with (gi_at_builtin; refine listIn rfl _ _ 22 rfl eltN b1 (.slice (some ⟨g0, 0, none⟩) out.length cap2) out.length 1 1 ⟨nb + 1 + 1, 0, none⟩ (rs3.flatMap ndC) (ndC (.slice none 0 0, ⟨[], 0, 0, 0, nd.size⟩)) rfl hOWN rfl rfl hNEWS (ndC_one _ _ _ _ _ rfl) (by omega) (by omega) (by have := hX5.2.2.2.2.2.2.2.2.size; simp; omega) (nb + 1 + 1 + 1) hSZ ?_; intro g cap' w1 hown' hgrow hat hlt; obtain ⟨hX6, hC6, hc6, hf6⟩ := hX5.app hLEN hB1 hCV hown' hgrow (hat.imp id (fun e => by omega)))
            all_goals try (rename_i hh1 hh2; exfalso; first | (simp [hlf] at hh1 hh2; done) | (simp at hh1 hh2; omega))
            all_goals try (rename_i hh1; exfalso; first | (simp [hlf] at hh1; done) | (simp at hh1; omega))
            all_goals
              obtain ⟨k1, k2, k3⟩ := round_end (B := b1 + 3 + 1) HX0.out hX6 (hC5.trans hC6) (fun g' hg' => by simp [Value.ownBlock] at hg'; subst hg'; exact hat.imp id (fun e => by omega)) (show (rs3 ++ [(Value.slice none 0 0, (⟨[], 0, 0, 0, nd.size⟩ : Nd))]).map (·.2) = fixR ls out (pl.set i out.length) x ++ [newN nd x D out.length] by rw [List.map_append, hR, newN, if_neg hlf]; rfl)
              refine ⟨rfl, k1, k2, ?_⟩
              show PI w b1 q dim D _ ((pre ++ [x]).foldl (stepP ls D) ([], List.replicate q 0)) _
              rw [hst', stepP_eq (by have := HND.out; omega) hxi hnd]
              exact k3
        · have hrt1 : decide (md.right = (i : Int)) = false := decide_eq_false (fun e => hrt (e.trans hxi.symm))
          refine quiet_round (by kernel_rfl) (by kernel_rfl) (by kernel_rfl) (fun _ _ h => h) ?_
          repeat (go_big_quiet_step (fail))
          refine wpQuiet_nil ?_
          intro _ hw'
          obtain ⟨nq, rfl⟩ := hw'
          have hXW3 := hX2.drewN nq
          have hCW3 : Ch b1 w.heap.size (Value.slice A2 out.length cap2).ownBlock W (W2.drewN nq) := hC2.trans (Ch.of_below (below_drewN (Below.refl _ _) nq) (by omega))
          have bXW3 : VBox (W2.drewN nq) Bx x := ((below_drewN (Below.refl W2.heap.size W2) nq).block _ (by omega)).trans bX2
          have bNW3 := ((below_drewN (Below.refl W2.heap.size W2) nq).block _ (by omega)).trans bN2
          have hzW3 : (W2.drewN nq).heap.size = nb + 1 := by simpa using hz2
          obtain ⟨W3, hW3⟩ : ∃ W3, W2.drewN nq = W3 := ⟨_, rfl⟩
          rw [hW3] at hXW3 hCW3 bXW3 bNW3 hzW3 ⊢
          clear hW3 nq t0 t1 t2 cp cq x0 x1 x2 n0 n1 n2 n4 q1 q2 q3 q4 q5 q6 q8 q9 q10 hX2 hC2 bX2 bN2 hz2 dm3
          obtain ⟨q1, q2, q3, q4, q5, q6, q8, q9, q10⟩ := id hXW3
          obtain ⟨t0, t1⟩ := q1.cells
          have t2 := q2.cell
          have cp := q4.cells.2
          have cq := q6.cell
          obtain ⟨x0, x1, x2⟩ := bXW3.cells
          have n0 : W3.cell? ⟨nb, 0, none⟩ = some (.slice AC cn cc) := cell_heap bNW3 rfl
          have n1 : W3.cell? ⟨nb, 1, none⟩ = some (.int .i64 nd.at_) := cell_heap bNW3 rfl
          have n2 : W3.cell? ⟨nb, 2, none⟩ = some (.int .i64 nd.left) := cell_heap bNW3 rfl
          have n4 : W3.cell? ⟨nb, 4, none⟩ = some (.int .i64 nd.size) := cell_heap bNW3 rfl
          have hR : rs.map (·.2) = fixR ls out (pl.set i out.length) x := by rw [h7, fixR_ne hmd hxj hrt]
          by_cases hlf : 0 < nd.left ∧ x.2.2 < D
          · skip
            obtain ⟨hco1, hco2⟩ := fork_coef hT hnd hlf.1
            rw [hcn0] at hco1 hco2
            obtain ⟨ac, rfl⟩ : ∃ ac, AC = some ac := by
              obtain ⟨ac, e, _⟩ := hcr.2 (by omega)
              exact ⟨ac, e⟩
            have hX5 := hXW3.below (below_a1 W3 (.cells #[.slice none 0 0, .int .i64 0, .int .i64 0, .int .i64 0, .int .i64 nd.size] 39))
            have hC5 := hCW3.trans (Ch.of_below (below_a1 W3 (.cells #[.slice none 0 0, .int .i64 0, .int .i64 0, .int .i64 0, .int .i64 nd.size] 39)) (by omega))
            have hz5 : (W3.alloc (.cells #[.slice none 0 0, .int .i64 0, .int .i64 0, .int .i64 0, .int .i64 nd.size] 39)).heap.size = nb + 1 + 1 := by simp [hzW3]
            have bM := heap_alloc_new W3 (.cells #[.slice none 0 0, .int .i64 0, .int .i64 0, .int .i64 0, .int .i64 nd.size] 39)
            rw [hzW3] at bM
            have n0m := (below_a1 W3 (.cells #[.slice none 0 0, .int .i64 0, .int .i64 0, .int .i64 0, .int .i64 nd.size] 39)).cell (p := ⟨nb, 0, none⟩) (by show nb < _; omega) |>.trans n0
            have n1m := (below_a1 W3 (.cells #[.slice none 0 0, .int .i64 0, .int .i64 0, .int .i64 0, .int .i64 nd.size] 39)).cell (p := ⟨nb, 1, none⟩) (by show nb < _; omega) |>.trans n1
            have cpm := (below_a1 W3 (.cells #[.slice none 0 0, .int .i64 0, .int .i64 0, .int .i64 0, .int .i64 nd.size] 39)).cell (p := ⟨b1, 1, none⟩) (by show b1 < _; omega) |>.trans cp
            have lb1 : b1 < nb + 1 := by omega
            have lb2 : Bx < nb + 1 := by omega
            have lb3 : w.heap.size < nb + 1 := by omega
            have lb4 : w.heap.size + 1 < nb + 1 := by omega
            have lb5 : nb < nb + 1 := by omega
            gi_wp2
            all_goals try (rename_i hh1 hh2; exfalso; first | (simp [hlf] at hh1 hh2; done) | (simp at hh1 hh2; omega))
            all_goals try (rename_i hh1; exfalso; first | (simp [hlf] at hh1; done) | (simp at hh1; omega))
            obtain ⟨Wm, hWm⟩ : ∃ Wm, W3.alloc (.cells #[.slice none 0 0, .int .i64 0, .int .i64 0, .int .i64 0, .int .i64 nd.size] 39) = Wm := ⟨_, rfl⟩
            rw [hWm] at hX5 hC5 hz5 bM n0m n1m cpm ⊢
            clear hWm n0 n1 n2 n4 x0 x1 x2 cp cq t0 t1 t2
            have hwl : IntKind.i64.wrap ((out.length : Int) + 1) = (out.length : Int) + 1 := IntWalk.i64_in _ (by omega)
            have hbe := below_a1 Wm.drew (.cells #[] 3)
            have hzd : Wm.drew.heap.size = nb + 1 + 1 := hz5
            have hXd := hX5.below (Below.refl Wm.heap.size Wm).drew
            have hCd := hC5.trans (Ch.of_below (Below.refl Wm.heap.size Wm).drew (by omega))
            have bMd : Wm.drew.heap[nb + 1]? = _ := bM
            refine held_round (S := fun w' => w'.cell? ⟨nb, 0, none⟩ = some (.slice (some ac) cn cc) ∧ w'.cell? ⟨nb, 1, none⟩ = some (.int .i64 nd.at_) ∧ w'.cell? ⟨b1, 1, none⟩ = some (.slice A2 out.length cap2)) (by kernel_rfl) (by kernel_rfl) (fun _ _ h => h) ⟨n0m, n1m, cpm⟩ (fun hHeld => ?_)
            obtain ⟨Wd, hWd⟩ : ∃ Wd, Wm.drew = Wd := ⟨_, rfl⟩
            rw [hWd] at hHeld hbe hzd hXd bMd hCd ⊢
            clear hWd n0m n1m cpm hX5 bM hC5 hz5 Wm
            obtain ⟨n0m, n1m, cpm⟩ := id hHeld
            refine wpAnyH_take (i := 1) (oi := ?oi1_27) (v := ?v1_27) ?hi1_27 (by kernel_rfl) ?hf1_27 (by kernel_rfl) ?hq1_27 ?hy1_27 hHeld ?rest1_27
            case hi1_27 => (simp only [List.getElem?_toArray, List.getElem?_cons_succ, List.getElem?_cons_zero]; try exact rfl)
            case hf1_27 => kernel_rfl
            case hq1_27 => exact fun _ _ _ h => absurd h.1 (fun e => by cases e)
            case hy1_27 => (refine Or.inl ⟨rfl, ?_⟩; intro w hSw; (try dsimp only at hSw); go_simp; try with_reducible rfl)
            try simp only [Act.put, List.setIfInBounds_toArray, List.set_cons_zero, List.set_cons_succ]
            refine wpAnyH_take (i := 2) (oi := ?oi2_28) (v := ?v2_28) ?hi2_28 (by kernel_rfl) ?hf2_28 (by kernel_rfl) ?hq2_28 ?hy2_28 hHeld ?rest2_28
            case hi2_28 => (simp only [List.getElem?_toArray, List.getElem?_cons_succ, List.getElem?_cons_zero]; try exact rfl)
            case hf2_28 => kernel_rfl
            case hq2_28 => exact fun _ _ _ h => absurd h.1 (fun e => by cases e)
            case hy2_28 => (refine Or.inl ⟨rfl, ?_⟩; intro w hSw; (try dsimp only at hSw); go_simp; try with_reducible rfl)
            try simp only [Act.put, List.setIfInBounds_toArray, List.set_cons_zero, List.set_cons_succ]
            refine wpAnyH_take (i := 3) (oi := ?oi3_29) (v := ?v3_29) ?hi3_29 (by kernel_rfl) ?hf3_29 (by kernel_rfl) ?hq3_29 ?hy3_29 hHeld ?rest3_29
            case hi3_29 => (simp only [List.getElem?_toArray, List.getElem?_cons_succ, List.getElem?_cons_zero]; try exact rfl)
            case hf3_29 => kernel_rfl
            case hq3_29 => exact fun _ _ _ h => absurd h.1 (fun e => by cases e)
            case hy3_29 => (refine Or.inl ⟨rfl, ?_⟩; intro w hSw; (try dsimp only at hSw); go_simp; try with_reducible rfl)
            try simp only [Act.put, List.setIfInBounds_toArray, List.set_cons_zero, List.set_cons_succ]
            refine wpAnyH_take (i := 5) (oi := ?oi5_30) (v := ?v5_30) ?hi5_30 (by kernel_rfl) ?hf5_30 (by kernel_rfl) ?hq5_30 ?hy5_30 hHeld ?rest5_30
            case hi5_30 => (simp only [List.getElem?_toArray, List.getElem?_cons_succ, List.getElem?_cons_zero]; try exact rfl)
            case hf5_30 => kernel_rfl
            case hq5_30 => exact fun _ _ _ h => absurd h.1 (fun e => by cases e)
            case hy5_30 => (refine Or.inl ⟨rfl, ?_⟩; intro w hSw; (try dsimp only at hSw); go_simp; try with_reducible rfl)
            try simp only [Act.put, List.setIfInBounds_toArray, List.set_cons_zero, List.set_cons_succ]
            refine wpAnyH_take (i := 6) (oi := ?oi6_31) (v := ?v6_31) ?hi6_31 (by kernel_rfl) ?hf6_31 (by kernel_rfl) ?hq6_31 ?hy6_31 hHeld ?rest6_31
            case hi6_31 => (simp only [List.getElem?_toArray, List.getElem?_cons_succ, List.getElem?_cons_zero]; try exact rfl)
            case hf6_31 => kernel_rfl
            case hq6_31 => exact fun _ _ _ h => absurd h.1 (fun e => by cases e)
            case hy6_31 => (refine Or.inl ⟨rfl, ?_⟩; intro w hSw; (try dsimp only at hSw); go_simp; try with_reducible rfl)
            try simp only [Act.put, List.setIfInBounds_toArray, List.set_cons_zero, List.set_cons_succ]
            refine wpAnyH_take (i := 7) (oi := ?oi7_32) (v := ?v7_32) ?hi7_32 (by kernel_rfl) ?hf7_32 (by kernel_rfl) ?hq7_32 ?hy7_32 hHeld ?rest7_32
            case hi7_32 => (simp only [List.getElem?_toArray, List.getElem?_cons_succ, List.getElem?_cons_zero]; try exact rfl)
            case hf7_32 => kernel_rfl
            case hq7_32 => exact fun _ _ _ h => absurd h.1 (fun e => by cases e)
            case hy7_32 => (refine Or.inl ⟨rfl, ?_⟩; intro w hSw; (try dsimp only at hSw); go_simp; try with_reducible rfl)
            try simp only [Act.put, List.setIfInBounds_toArray, List.set_cons_zero, List.set_cons_succ]
            refine wpAnyH_take (i := 9) (oi := ?oi9_33) (v := ?v9_33) ?hi9_33 (by kernel_rfl) ?hf9_33 (by kernel_rfl) ?hq9_33 ?hy9_33 hHeld ?rest9_33
            case hi9_33 => (simp only [List.getElem?_toArray, List.getElem?_cons_succ, List.getElem?_cons_zero]; try exact rfl)
            case hf9_33 => kernel_rfl
            case hq9_33 => exact fun _ _ _ h => absurd h.1 (fun e => by cases e)
            case hy9_33 => (refine Or.inl ⟨rfl, ?_⟩; intro w hSw; (try dsimp only at hSw); go_simp; try with_reducible rfl)
            try simp only [Act.put, List.setIfInBounds_toArray, List.set_cons_zero, List.set_cons_succ]
            refine wpAnyH_take (i := 10) (oi := ?oi10_34) (v := ?v10_34) ?hi10_34 (by kernel_rfl) ?hf10_34 (by kernel_rfl) ?hq10_34 ?hy10_34 hHeld ?rest10_34
            case hi10_34 => (simp only [List.getElem?_toArray, List.getElem?_cons_succ, List.getElem?_cons_zero]; try exact rfl)
            case hf10_34 => kernel_rfl
            case hq10_34 => exact fun _ _ _ h => absurd h.1 (fun e => by cases e)
            case hy10_34 => (refine Or.inl ⟨rfl, ?_⟩; intro w hSw; (try dsimp only at hSw); go_simp; try with_reducible rfl)
            try simp only [Act.put, List.setIfInBounds_toArray, List.set_cons_zero, List.set_cons_succ]
            refine wpAnyH_take (i := 11) (oi := ?oi11_35) (v := ?v11_35) ?hi11_35 (by kernel_rfl) ?hf11_35 (by kernel_rfl) ?hq11_35 ?hy11_35 hHeld ?rest11_35
            case hi11_35 => (simp only [List.getElem?_toArray, List.getElem?_cons_succ, List.getElem?_cons_zero]; try exact rfl)
            case hf11_35 => kernel_rfl
            case hq11_35 => exact fun _ _ _ h => absurd h.1 (fun e => by cases e)
            case hy11_35 => (refine Or.inl ⟨rfl, ?_⟩; intro w hSw; (try dsimp only at hSw); go_simp; try with_reducible rfl)
            try simp only [Act.put, List.setIfInBounds_toArray, List.set_cons_zero, List.set_cons_succ]
            refine wpAnyH_take (i := 12) (oi := ?oi12_36) (v := ?v12_36) ?hi12_36 (by kernel_rfl) ?hf12_36 (by kernel_rfl) ?hq12_36 ?hy12_36 hHeld ?rest12_36
            case hi12_36 => (simp only [List.getElem?_toArray, List.getElem?_cons_succ, List.getElem?_cons_zero]; try exact rfl)
            case hf12_36 => kernel_rfl
            case hq12_36 => exact fun _ _ _ h => absurd h.1 (fun e => by cases e)
            case hy12_36 => (refine Or.inl ⟨rfl, ?_⟩; intro w hSw; (try dsimp only at hSw); go_simp; try with_reducible rfl)
            try simp only [Act.put, List.setIfInBounds_toArray, List.set_cons_zero, List.set_cons_succ]
            refine wpAnyH_ready (rs := [0]) (by kernel_rfl) (by simp) ?_
            refine AllReadyH.cons (by simp only [List.getElem?_toArray, List.getElem?_cons_zero]; try exact rfl) (fun K hK => ?_) AllReadyH.nil
            go_simp
            refine hK.out _ _ ?_ (fun hHeld => ?_)
            · exact ⟨(hbe.cell (by show nb < _; omega)).trans n0m, (hbe.cell (by show nb < _; omega)).trans n1m, (hbe.cell (by show b1 < _; omega)).trans cpm⟩
            clear hK K
            try simp only [Act.put, List.setIfInBounds_toArray, List.set_cons_zero, List.set_cons_succ]
            obtain ⟨we, hwe⟩ : ∃ we, Wd.alloc (.cells #[] 3) = we := ⟨_, rfl⟩
            rw [hwe] at hHeld ⊢
            have hoe := own_empty Wd 3
            rw [hwe] at hoe hbe
            have hse : we.heap.size = nb + 1 + 1 + 1 := by rw [← hwe]; simpa using hzd
            have hne : ∀ j u, (nd.coef.map (Value.int .i64))[j]? = some u → we.cell? (ac.add j) = some u := seq_news (hcv0.below (hCd.1.trans (hbe.mono (by omega))))
            refine wpAnyH_ready (rs := [4]) (by kernel_rfl) (by simp) ?_
            refine AllReadyH.cons (by simp only [List.getElem?_toArray, List.getElem?_cons_succ, List.getElem?_cons_zero]; try exact rfl) (fun K hK => ?_) AllReadyH.nil
            refine stepL rfl (.tmp 86) (.tmp 89) _ rfl eltI Wd.heap.size (.slice (some ⟨Wd.heap.size, 0, none⟩) 0 0) 0 cn cc ac [] (nd.coef.map (Value.int .i64)) ?s1_37 hoe rfl (by simp [hcn0]) hne (oneCells_int _ _) hco1 (by omega) (by omega) ?s2_37
            case s1_37 => (simp only [Act.eval]; first | rfl | (go_simp; done))
            intro g cc' w1 hown hgrow hat hlt1
            have hb1 : Below Wd.heap.size Wd w1 := hbe.grown hgrow (by omega) (fun k e => by simp [Value.ownBlock] at e; omega)
            have hM1 := (hb1.block (nb + 1) (by omega)).trans bMd
            have m0 : w1.cell? ⟨nb + 1, 0, none⟩ = some (.slice none 0 0) := cell_heap hM1 rfl
            have m1 : w1.cell? ⟨nb + 1, 1, none⟩ = some (.int .i64 0) := cell_heap hM1 rfl
            have m2 : w1.cell? ⟨nb + 1, 2, none⟩ = some (.int .i64 0) := cell_heap hM1 rfl
            have fm : ∀ j, w1.frozen? ⟨nb + 1, j, none⟩ = false := fun j => by simp [World.frozen?, hM1]
            have hkeep := And.intro ((hb1.cell (p := ⟨nb, 0, none⟩) (by show nb < _; omega)).trans n0m) (And.intro ((hb1.cell (p := ⟨nb, 1, none⟩) (by show nb < _; omega)).trans n1m) ((hb1.cell (p := ⟨b1, 1, none⟩) (by show b1 < _; omega)).trans cpm))
            refine hK.out _ _ ?_ (fun hHeld => ?_)
            · exact hkeep
            clear hK K
            try simp only [Act.put, List.setIfInBounds_toArray, List.set_cons_zero, List.set_cons_succ]
            refine wpAnyH_take (i := 8) (oi := ?oi8_38) (v := ?v8_38) ?hi8_38 (by kernel_rfl) ?hf8_38 (by kernel_rfl) ?hq8_38 ?hy8_38 hHeld ?rest8_38
            case hi8_38 => (simp only [List.getElem?_toArray, List.getElem?_cons_succ, List.getElem?_cons_zero]; try exact rfl)
            case hf8_38 => kernel_rfl
            case hq8_38 => exact fun _ _ _ h => absurd h.1 (fun e => by cases e)
            case hy8_38 => (refine Or.inl ⟨rfl, ?_⟩; intro w hSw; (try dsimp only at hSw); go_simp; try with_reducible rfl)
            try simp only [Act.put, List.setIfInBounds_toArray, List.set_cons_zero, List.set_cons_succ]
            refine wpAnyH_take (i := 13) (oi := ?oi13_39) (v := ?v13_39) ?hi13_39 (by kernel_rfl) ?hf13_39 (by kernel_rfl) ?hq13_39 ?hy13_39 hHeld ?rest13_39
            case hi13_39 => (simp only [List.getElem?_toArray, List.getElem?_cons_succ, List.getElem?_cons_zero]; try exact rfl)
            case hf13_39 => kernel_rfl
            case hq13_39 => exact fun _ _ _ h => absurd h.1 (fun e => by cases e)
            case hy13_39 => (refine Or.inl ⟨rfl, ?_⟩; intro w hSw; (try dsimp only at hSw); go_simp; try with_reducible rfl)
            try simp only [Act.put, List.setIfInBounds_toArray, List.set_cons_zero, List.set_cons_succ]
            refine wpAnyH_ready (rs := [14]) (by kernel_rfl) (by simp) ?_
            refine AllReadyH.cons (by simp only [List.getElem?_toArray, List.getElem?_cons_succ, List.getElem?_cons_zero]; try exact rfl) (fun K hK => ?_) AllReadyH.nil
            go_simp
            refine hK.out _ _ ?_ (fun hHeld => ?_)
            · first | exact ⟨by go_simp, by go_simp, by go_simp⟩ | (obtain ⟨e0, e1, e2⟩ := hHeld; refine ⟨?_, ?_, ?_⟩ <;> (go_simp; done))
            clear hK K
            try simp only [Act.put, List.setIfInBounds_toArray, List.set_cons_zero, List.set_cons_succ]
            refine wpAnyH_take (i := 15) (oi := ?oi15_40) (v := ?v15_40) ?hi15_40 (by kernel_rfl) ?hf15_40 (by kernel_rfl) ?hq15_40 ?hy15_40 hHeld ?rest15_40
            case hi15_40 => (simp only [List.getElem?_toArray, List.getElem?_cons_succ, List.getElem?_cons_zero]; try exact rfl)
            case hf15_40 => kernel_rfl
            case hq15_40 => exact fun _ _ _ h => absurd h.1 (fun e => by cases e)
            case hy15_40 => (refine Or.inl ⟨rfl, ?_⟩; intro w hSw; (try dsimp only at hSw); go_simp; try with_reducible rfl)
            try simp only [Act.put, List.setIfInBounds_toArray, List.set_cons_zero, List.set_cons_succ]
            refine wpAnyH_ready (rs := [16]) (by kernel_rfl) (by simp) ?_
            refine AllReadyH.cons (by simp only [List.getElem?_toArray, List.getElem?_cons_succ, List.getElem?_cons_zero]; try exact rfl) (fun K hK => ?_) AllReadyH.nil
            go_simp
            refine hK.out _ _ ?_ (fun hHeld => ?_)
            · first | exact ⟨by go_simp, by go_simp, by go_simp⟩ | (obtain ⟨e0, e1, e2⟩ := hHeld; refine ⟨?_, ?_, ?_⟩ <;> (go_simp; done))
            clear hK K
            try simp only [Act.put, List.setIfInBounds_toArray, List.set_cons_zero, List.set_cons_succ]
            refine wpAnyH_done (by kernel_rfl) ?_ _
            refine ⟨rfl, ?_⟩
            simp only [Nat.zero_add, List.nil_append] at hown
            try rw [hwl]
            have hnv : ((.slice A2 out.length cap2) : Value).ownBlock ≠ some (nb + 1) := fun e => by have := (own_typ HX0.out.2.2.2.2.2.2.1 _ e).2.2; omega
            obtain ⟨hX6, bM6, hCV6, hk6, hz6, hb6⟩ := forkBox (a1 := nd.at_) (l1 := (out.length : Int) + 1) hXd bMd hnv (by omega) (by omega) hb1 hown
            obtain ⟨W6, hW6⟩ : ∃ W6, ((w1.setCell ⟨nb + 1, 0, none⟩ (.slice (some ⟨g, 0, none⟩) cn cc')).setCell ⟨nb + 1, 1, none⟩ (.int .i64 nd.at_)).setCell ⟨nb + 1, 2, none⟩ (.int .i64 ((out.length : Int) + 1)) = W6 := ⟨_, rfl⟩
            rw [hW6] at hX6 bM6 hCV6 hk6 hz6 hb6 ⊢
            have hC6 : Ch b1 w.heap.size ((.slice A2 out.length cap2) : Value).ownBlock W W6 := ⟨hCd.1.trans hb6, fun k hk e1 e2 e3 => (hk6 k (by omega) (by omega)).trans (hCd.2 k hk e1 e2 e3)⟩
            clear hW6 hHeld hkeep fm m0 m1 m2 hM1 hb1 hgrow hat hlt1 hown hne hoe hbe hwe
            obtain ⟨t0, t1⟩ := hX6.1.cells
            have cp := hX6.2.2.2.1.cells.2
            have m0 : W6.cell? ⟨nb + 1, 0, none⟩ = some (.slice (some ⟨g, 0, none⟩) cn cc') := cell_heap bM6 rfl
            have m1 : W6.cell? ⟨nb + 1, 1, none⟩ = some (.int .i64 nd.at_) := cell_heap bM6 rfl
            have m2 : W6.cell? ⟨nb + 1, 2, none⟩ = some (.int .i64 ((out.length : Int) + 1)) := cell_heap bM6 rfl
            have m3 : W6.cell? ⟨nb + 1, 3, none⟩ = some (.int .i64 0) := cell_heap bM6 rfl
            have m4 : W6.cell? ⟨nb + 1, 4, none⟩ = some (.int .i64 nd.size) := cell_heap bM6 rfl
            obtain ⟨s6, hs6⟩ : ∃ s, W6.heap.size = s := ⟨_, rfl⟩
            have lb6 : nb + 1 < s6 := by omega
            have lb7 : b1 < s6 := by omega
            have hLEN : rs.length = out.length := by first | exact hol | exact hl3 | (rw [List.length_set]; exact hol)
            have hOWN := hX6.2.2.2.2.2.2.1.alloc (.cells #[.slice (some ⟨g, 0, none⟩) cn cc', .int .i64 nd.at_, .int .i64 ((out.length : Int) + 1), .int .i64 0, .int .i64 nd.size] 39)
            rw [hLEN] at hOWN
            have hNEWS := World.news_of_block (heap_alloc_new W6 (.cells #[.slice (some ⟨g, 0, none⟩) cn cc', .int .i64 nd.at_, .int .i64 ((out.length : Int) + 1), .int .i64 0, .int .i64 nd.size] 39))
            rw [hs6] at hNEWS
            have hSZ : (W6.alloc (.cells #[.slice (some ⟨g, 0, none⟩) cn cc', .int .i64 nd.at_, .int .i64 ((out.length : Int) + 1), .int .i64 0, .int .i64 nd.size] 39)).heap.size = s6 + 1 := by simp [hs6]
            have hCV : W6.ownsRow (b1 + 2) 3 1 (.slice (some ⟨g, 0, none⟩) cn cc') (⟨nd.coef, nd.at_, (out.length : Int) + 1, 0, nd.size⟩ : Nd).coef.length ((⟨nd.coef, nd.at_, (out.length : Int) + 1, 0, nd.size⟩ : Nd).coef.map (Value.int .i64)) := by dsimp only; rw [hcn0]; exact hCV6
            gi_wp2_with (gi_at_builtin; refine listIn rfl _ _ 22 rfl eltN b1 (.slice A2 out.length cap2) out.length 1 1 ⟨s6, 0, none⟩ (rs.flatMap ndC) (ndC (.slice (some ⟨g, 0, none⟩) cn cc', ⟨nd.coef, nd.at_, (out.length : Int) + 1, 0, nd.size⟩)) rfl hOWN rfl rfl hNEWS (ndC_one _ _ _ _ _ rfl) (by omega) (by omega) (by have := hX6.2.2.2.2.2.2.2.2.size; simp; omega) (s6 + 1) hSZ ?_; intro g2 cap' w2 hown' hgrow hat hlt; obtain ⟨hX7, hC7, hc7, hf7⟩ := hX6.app hLEN hB1 hCV hown' hgrow (hat.imp id (fun e => by omega)))
            obtain ⟨k1, k2, k3⟩ := round_end (B := b1 + 3 + 1) HX0.out hX7 (hC6.trans hC7) (fun g' hg' => by simp [Value.ownBlock] at hg'; subst hg'; exact hat.imp id (fun e => by omega)) (show (rs ++ [(Value.slice (some ⟨g, 0, none⟩) cn cc', (⟨nd.coef, nd.at_, (out.length : Int) + 1, 0, nd.size⟩ : Nd))]).map (·.2) = fixR ls out (pl.set i out.length) x ++ [newN nd x D out.length] by rw [List.map_append, hR, newN, if_pos hlf]; rfl)
            refine ⟨rfl, k1, k2, ?_⟩
            show PI w b1 q dim D _ ((pre ++ [x]).foldl (stepP ls D) ([], List.replicate q 0)) _
            rw [hst', stepP_eq (by have := HND.out; omega) hxi hnd]
            exact k3
          · skip
            have hX5 := hXW3.below (below_a1 W3 (.cells #[.slice none 0 0, .int .i64 0, .int .i64 0, .int .i64 0, .int .i64 nd.size] 39))
            have hC5 := hCW3.trans (Ch.of_below (below_a1 W3 (.cells #[.slice none 0 0, .int .i64 0, .int .i64 0, .int .i64 0, .int .i64 nd.size] 39)) (by omega))
            have hz5 : (W3.alloc (.cells #[.slice none 0 0, .int .i64 0, .int .i64 0, .int .i64 0, .int .i64 nd.size] 39)).heap.size = nb + 1 + 1 := by simp [hzW3]
            have hOWN := hX5.2.2.2.2.2.2.1.alloc (.cells #[.slice none 0 0, .int .i64 0, .int .i64 0, .int .i64 0, .int .i64 nd.size] 39)
            have hNEWS := World.news_of_block (heap_alloc_new (W3.alloc (.cells #[.slice none 0 0, .int .i64 0, .int .i64 0, .int .i64 0, .int .i64 nd.size] 39)) (.cells #[.slice none 0 0, .int .i64 0, .int .i64 0, .int .i64 0, .int .i64 nd.size] 39))
            have hLEN : rs.length = out.length := by first | exact hol | exact hl3 | (rw [List.length_set]; exact hol)
            rw [hLEN] at hOWN
            rw [hz5] at hNEWS
            have hSZ : ((W3.alloc (.cells #[.slice none 0 0, .int .i64 0, .int .i64 0, .int .i64 0, .int .i64 nd.size] 39)).alloc (.cells #[.slice none 0 0, .int .i64 0, .int .i64 0, .int .i64 0, .int .i64 nd.size] 39)).heap.size = nb + 1 + 1 + 1 := by simp [hzW3]
            have hCV : (W3.alloc (.cells #[.slice none 0 0, .int .i64 0, .int .i64 0, .int .i64 0, .int .i64 nd.size] 39)).ownsRow (b1 + 2) 3 1 (.slice none 0 0) (⟨[], 0, 0, 0, nd.size⟩ : Nd).coef.length ((⟨[], 0, 0, 0, nd.size⟩ : Nd).coef.map (Value.int .i64)) := World.ownsRow_nil _ _ _ _
            have lb1 : b1 < nb + 1 := by omega
            have lb2 : Bx < nb + 1 := by omega
            have lb3 : w.heap.size < nb + 1 := by omega
            have lb4 : w.heap.size + 1 < nb + 1 := by omega
            have lb5 : nb < nb + 1 := by omega
            gi_wp2_with (gi_at_builtin; refine listIn rfl _ _ 22 rfl eltN b1 (.slice A2 out.length cap2) out.length 1 1 ⟨nb + 1 + 1, 0, none⟩ (rs.flatMap ndC) (ndC (.slice none 0 0, ⟨[], 0, 0, 0, nd.size⟩)) rfl hOWN rfl rfl hNEWS (ndC_one _ _ _ _ _ rfl) (by omega) (by omega) (by have := hX5.2.2.2.2.2.2.2.2.size; simp; omega) (nb + 1 + 1 + 1) hSZ ?_; intro g cap' w1 hown' hgrow hat hlt; obtain ⟨hX6, hC6, hc6, hf6⟩ := hX5.app hLEN hB1 hCV hown' hgrow (hat.imp id (fun e => by omega)))
            all_goals try (rename_i hh1 hh2; exfalso; first | (simp [hlf] at hh1 hh2; done) | (simp at hh1 hh2; omega))
            all_goals try (rename_i hh1; exfalso; first | (simp [hlf] at hh1; done) | (simp at hh1; omega))
            all_goals
              obtain ⟨k1, k2, k3⟩ := round_end (B := b1 + 3 + 1) HX0.out hX6 (hC5.trans hC6) (fun g' hg' => by simp [Value.ownBlock] at hg'; subst hg'; exact hat.imp id (fun e => by omega)) (show (rs ++ [(Value.slice none 0 0, (⟨[], 0, 0, 0, nd.size⟩ : Nd))]).map (·.2) = fixR ls out (pl.set i out.length) x ++ [newN nd x D out.length] by rw [List.map_append, hR, newN, if_neg hlf]; rfl)
              refine ⟨rfl, k1, k2, ?_⟩
              show PI w b1 q dim D _ ((pre ++ [x]).foldl (stepP ls D) ([], List.replicate q 0)) _
              rw [hst', stepP_eq (by have := HND.out; omega) hxi hnd]
              exact k3
      · have hp1 : decide (0 ≤ x.2.1) = false := decide_eq_false hp0
        refine quiet_round (by kernel_rfl) (by kernel_rfl) (by kernel_rfl) (fun _ _ h => h) ?_
        repeat (go_big_quiet_step (fail))
        refine wpQuiet_nil ?_
        intro _ hw'
        obtain ⟨nq, rfl⟩ := hw'
        have hXW3 := hX2.drewN nq
        have hCW3 : Ch b1 w.heap.size (Value.slice A2 out.length cap2).ownBlock W (W2.drewN nq) := hC2.trans (Ch.of_below (below_drewN (Below.refl _ _) nq) (by omega))
        have bXW3 : VBox (W2.drewN nq) Bx x := ((below_drewN (Below.refl W2.heap.size W2) nq).block _ (by omega)).trans bX2
        have bNW3 := ((below_drewN (Below.refl W2.heap.size W2) nq).block _ (by omega)).trans bN2
        have hzW3 : (W2.drewN nq).heap.size = nb + 1 := by simpa using hz2
        obtain ⟨W3, hW3⟩ : ∃ W3, W2.drewN nq = W3 := ⟨_, rfl⟩
        rw [hW3] at hXW3 hCW3 bXW3 bNW3 hzW3 ⊢
        clear hW3 nq t0 t1 t2 cp cq x0 x1 x2 n0 n1 n2 n4 q1 q2 q3 q4 q5 q6 q8 q9 q10 hX2 hC2 bX2 bN2 hz2
        obtain ⟨q1, q2, q3, q4, q5, q6, q8, q9, q10⟩ := id hXW3
        obtain ⟨t0, t1⟩ := q1.cells
        have t2 := q2.cell
        have cp := q4.cells.2
        have cq := q6.cell
        obtain ⟨x0, x1, x2⟩ := bXW3.cells
        have n0 : W3.cell? ⟨nb, 0, none⟩ = some (.slice AC cn cc) := cell_heap bNW3 rfl
        have n1 : W3.cell? ⟨nb, 1, none⟩ = some (.int .i64 nd.at_) := cell_heap bNW3 rfl
        have n2 : W3.cell? ⟨nb, 2, none⟩ = some (.int .i64 nd.left) := cell_heap bNW3 rfl
        have n4 : W3.cell? ⟨nb, 4, none⟩ = some (.int .i64 nd.size) := cell_heap bNW3 rfl
        have hR : rs.map (·.2) = fixR ls out (pl.set i out.length) x := by
          rw [h7]
          unfold fixR
          split
          · rw [if_neg (fun h => hp0 h.1)]
          · rfl
        by_cases hlf : 0 < nd.left ∧ x.2.2 < D
        · skip
          obtain ⟨hco1, hco2⟩ := fork_coef hT hnd hlf.1
          rw [hcn0] at hco1 hco2
          obtain ⟨ac, rfl⟩ : ∃ ac, AC = some ac := by
            obtain ⟨ac, e, _⟩ := hcr.2 (by omega)
            exact ⟨ac, e⟩
          have hX5 := hXW3.below (below_a1 W3 (.cells #[.slice none 0 0, .int .i64 0, .int .i64 0, .int .i64 0, .int .i64 nd.size] 39))
          have hC5 := hCW3.trans (Ch.of_below (below_a1 W3 (.cells #[.slice none 0 0, .int .i64 0, .int .i64 0, .int .i64 0, .int .i64 nd.size] 39)) (by omega))
          have hz5 : (W3.alloc (.cells #[.slice none 0 0, .int .i64 0, .int .i64 0, .int .i64 0, .int .i64 nd.size] 39)).heap.size = nb + 1 + 1 := by simp [hzW3]
          have bM := heap_alloc_new W3 (.cells #[.slice none 0 0, .int .i64 0, .int .i64 0, .int .i64 0, .int .i64 nd.size] 39)
          rw [hzW3] at bM
          have n0m := (below_a1 W3 (.cells #[.slice none 0 0, .int .i64 0, .int .i64 0, .int .i64 0, .int .i64 nd.size] 39)).cell (p := ⟨nb, 0, none⟩) (by show nb < _; omega) |>.trans n0
          have n1m := (below_a1 W3 (.cells #[.slice none 0 0, .int .i64 0, .int .i64 0, .int .i64 0, .int .i64 nd.size] 39)).cell (p := ⟨nb, 1, none⟩) (by show nb < _; omega) |>.trans n1
          have cpm := (below_a1 W3 (.cells #[.slice none 0 0, .int .i64 0, .int .i64 0, .int .i64 0, .int .i64 nd.size] 39)).cell (p := ⟨b1, 1, none⟩) (by show b1 < _; omega) |>.trans cp
          have lb1 : b1 < nb + 1 := by omega
          have lb2 : Bx < nb + 1 := by omega
          have lb3 : w.heap.size < nb + 1 := by omega
          have lb4 : w.heap.size + 1 < nb + 1 := by omega
          have lb5 : nb < nb + 1 := by omega
          gi_wp2
          all_goals try (rename_i hh1 hh2; exfalso; first | (simp [hlf] at hh1 hh2; done) | (simp at hh1 hh2; omega))
          all_goals try (rename_i hh1; exfalso; first | (simp [hlf] at hh1; done) | (simp at hh1; omega))
          obtain ⟨Wm, hWm⟩ : ∃ Wm, W3.alloc (.cells #[.slice none 0 0, .int .i64 0, .int .i64 0, .int .i64 0, .int .i64 nd.size] 39) = Wm := ⟨_, rfl⟩
          rw [hWm] at hX5 hC5 hz5 bM n0m n1m cpm ⊢
          clear hWm n0 n1 n2 n4 x0 x1 x2 cp cq t0 t1 t2
          have hwl : IntKind.i64.wrap ((out.length : Int) + 1) = (out.length : Int) + 1 := IntWalk.i64_in _ (by omega)
          have hbe := below_a1 Wm.drew (.cells #[] 3)
          have hzd : Wm.drew.heap.size = nb + 1 + 1 := hz5
          have hXd := hX5.below (Below.refl Wm.heap.size Wm).drew
          have hCd := hC5.trans (Ch.of_below (Below.refl Wm.heap.size Wm).drew (by omega))
          have bMd : Wm.drew.heap[nb + 1]? = _ := bM
          refine held_round (S := fun w' => w'.cell? ⟨nb, 0, none⟩ = some (.slice (some ac) cn cc) ∧ w'.cell? ⟨nb, 1, none⟩ = some (.int .i64 nd.at_) ∧ w'.cell? ⟨b1, 1, none⟩ = some (.slice A2 out.length cap2)) (by kernel_rfl) (by kernel_rfl) (fun _ _ h => h) ⟨n0m, n1m, cpm⟩ (fun hHeld => ?_)
          obtain ⟨Wd, hWd⟩ : ∃ Wd, Wm.drew = Wd := ⟨_, rfl⟩
          rw [hWd] at hHeld hbe hzd hXd bMd hCd ⊢
          clear hWd n0m n1m cpm hX5 bM hC5 hz5 Wm
          obtain ⟨n0m, n1m, cpm⟩ := id hHeld
          refine wpAnyH_take (i := 1) (oi := ?oi1_41) (v := ?v1_41) ?hi1_41 (by kernel_rfl) ?hf1_41 (by kernel_rfl) ?hq1_41 ?hy1_41 hHeld ?rest1_41
          case hi1_41 => (simp only [List.getElem?_toArray, List.getElem?_cons_succ, List.getElem?_cons_zero]; try exact rfl)
          case hf1_41 => kernel_rfl
          case hq1_41 => exact fun _ _ _ h => absurd h.1 (fun e => by cases e)
          case hy1_41 => (refine Or.inl ⟨rfl, ?_⟩; intro w hSw; (try dsimp only at hSw); go_simp; try with_reducible rfl)
          try simp only [Act.put, List.setIfInBounds_toArray, List.set_cons_zero, List.set_cons_succ]
          refine wpAnyH_take (i := 2) (oi := ?oi2_42) (v := ?v2_42) ?hi2_42 (by kernel_rfl) ?hf2_42 (by kernel_rfl) ?hq2_42 ?hy2_42 hHeld ?rest2_42
          case hi2_42 => (simp only [List.getElem?_toArray, List.getElem?_cons_succ, List.getElem?_cons_zero]; try exact rfl)
          case hf2_42 => kernel_rfl
          case hq2_42 => exact fun _ _ _ h => absurd h.1 (fun e => by cases e)
          case hy2_42 => (refine Or.inl ⟨rfl, ?_⟩; intro w hSw; (try dsimp only at hSw); go_simp; try with_reducible rfl)
          try simp only [Act.put, List.setIfInBounds_toArray, List.set_cons_zero, List.set_cons_succ]
          refine wpAnyH_take (i := 3) (oi := ?oi3_43) (v := ?v3_43) ?hi3_43 (by kernel_rfl) ?hf3_43 (by kernel_rfl) ?hq3_43 ?hy3_43 hHeld ?rest3_43
          case hi3_43 => (simp only [List.getElem?_toArray, List.getElem?_cons_succ, List.getElem?_cons_zero]; try exact rfl)
          case hf3_43 => kernel_rfl
          case hq3_43 => exact fun _ _ _ h => absurd h.1 (fun e => by cases e)
          case hy3_43 => (refine Or.inl ⟨rfl, ?_⟩; intro w hSw; (try dsimp only at hSw); go_simp; try with_reducible rfl)
          try simp only [Act.put, List.setIfInBounds_toArray, List.set_cons_zero, List.set_cons_succ]
          refine wpAnyH_take (i := 5) (oi := ?oi5_44) (v := ?v5_44) ?hi5_44 (by kernel_rfl) ?hf5_44 (by kernel_rfl) ?hq5_44 ?hy5_44 hHeld ?rest5_44
          case hi5_44 => (simp only [List.getElem?_toArray, List.getElem?_cons_succ, List.getElem?_cons_zero]; try exact rfl)
          case hf5_44 => kernel_rfl
          case hq5_44 => exact fun _ _ _ h => absurd h.1 (fun e => by cases e)
          case hy5_44 => (refine Or.inl ⟨rfl, ?_⟩; intro w hSw; (try dsimp only at hSw); go_simp; try with_reducible rfl)
          try simp only [Act.put, List.setIfInBounds_toArray, List.set_cons_zero, List.set_cons_succ]
          refine wpAnyH_take (i := 6) (oi := ?oi6_45) (v := ?v6_45) ?hi6_45 (by kernel_rfl) ?hf6_45 (by kernel_rfl) ?hq6_45 ?hy6_45 hHeld ?rest6_45
          case hi6_45 => (simp only [List.getElem?_toArray, List.getElem?_cons_succ, List.getElem?_cons_zero]; try exact rfl)
          case hf6_45 => kernel_rfl
          case hq6_45 => exact fun _ _ _ h => absurd h.1 (fun e => by cases e)
          case hy6_45 => (refine Or.inl ⟨rfl, ?_⟩; intro w hSw; (try dsimp only at hSw); go_simp; try with_reducible rfl)
          try simp only [Act.put, List.setIfInBounds_toArray, List.set_cons_zero, List.set_cons_succ]
          refine wpAnyH_take (i := 7) (oi := ?oi7_46) (v := ?v7_46) ?hi7_46 (by kernel_rfl) ?hf7_46 (by kernel_rfl) ?hq7_46 ?hy7_46 hHeld ?rest7_46
          case hi7_46 => (simp only [List.getElem?_toArray, List.getElem?_cons_succ, List.getElem?_cons_zero]; try exact rfl)
          case hf7_46 => kernel_rfl
          case hq7_46 => exact fun _ _ _ h => absurd h.1 (fun e => by cases e)
          case hy7_46 => (refine Or.inl ⟨rfl, ?_⟩; intro w hSw; (try dsimp only at hSw); go_simp; try with_reducible rfl)
          try simp only [Act.put, List.setIfInBounds_toArray, List.set_cons_zero, List.set_cons_succ]
          refine wpAnyH_take (i := 9) (oi := ?oi9_47) (v := ?v9_47) ?hi9_47 (by kernel_rfl) ?hf9_47 (by kernel_rfl) ?hq9_47 ?hy9_47 hHeld ?rest9_47
          case hi9_47 => (simp only [List.getElem?_toArray, List.getElem?_cons_succ, List.getElem?_cons_zero]; try exact rfl)
          case hf9_47 => kernel_rfl
          case hq9_47 => exact fun _ _ _ h => absurd h.1 (fun e => by cases e)
          case hy9_47 => (refine Or.inl ⟨rfl, ?_⟩; intro w hSw; (try dsimp only at hSw); go_simp; try with_reducible rfl)
          try simp only [Act.put, List.setIfInBounds_toArray, List.set_cons_zero, List.set_cons_succ]
          refine wpAnyH_take (i := 10) (oi := ?oi10_48) (v := ?v10_48) ?hi10_48 (by kernel_rfl) ?hf10_48 (by kernel_rfl) ?hq10_48 ?hy10_48 hHeld ?rest10_48
          case hi10_48 => (simp only [List.getElem?_toArray, List.getElem?_cons_succ, List.getElem?_cons_zero]; try exact rfl)
          case hf10_48 => kernel_rfl
          case hq10_48 => exact fun _ _ _ h => absurd h.1 (fun e => by cases e)
          case hy10_48 => (refine Or.inl ⟨rfl, ?_⟩; intro w hSw; (try dsimp only at hSw); go_simp; try with_reducible rfl)
          try simp only [Act.put, List.setIfInBounds_toArray, List.set_cons_zero, List.set_cons_succ]
          refine wpAnyH_take (i := 11) (oi := ?oi11_49) (v := ?v11_49) ?hi11_49 (by kernel_rfl) ?hf11_49 (by kernel_rfl) ?hq11_49 ?hy11_49 hHeld ?rest11_49
          case hi11_49 => (simp only [List.getElem?_toArray, List.getElem?_cons_succ, List.getElem?_cons_zero]; try exact rfl)
          case hf11_49 => kernel_rfl
          case hq11_49 => exact fun _ _ _ h => absurd h.1 (fun e => by cases e)
          case hy11_49 => (refine Or.inl ⟨rfl, ?_⟩; intro w hSw; (try dsimp only at hSw); go_simp; try with_reducible rfl)
          try simp only [Act.put, List.setIfInBounds_toArray, List.set_cons_zero, List.set_cons_succ]
          refine wpAnyH_take (i := 12) (oi := ?oi12_50) (v := ?v12_50) ?hi12_50 (by kernel_rfl) ?hf12_50 (by kernel_rfl) ?hq12_50 ?hy12_50 hHeld ?rest12_50
          case hi12_50 => (simp only [List.getElem?_toArray, List.getElem?_cons_succ, List.getElem?_cons_zero]; try exact rfl)
          case hf12_50 => kernel_rfl
          case hq12_50 => exact fun _ _ _ h => absurd h.1 (fun e => by cases e)
          case hy12_50 => (refine Or.inl ⟨rfl, ?_⟩; intro w hSw; (try dsimp only at hSw); go_simp; try with_reducible rfl)
          try simp only [Act.put, List.setIfInBounds_toArray, List.set_cons_zero, List.set_cons_succ]
          refine wpAnyH_ready (rs := [0]) (by kernel_rfl) (by simp) ?_
          refine AllReadyH.cons (by simp only [List.getElem?_toArray, List.getElem?_cons_zero]; try exact rfl) (fun K hK => ?_) AllReadyH.nil
          go_simp
          refine hK.out _ _ ?_ (fun hHeld => ?_)
          · exact ⟨(hbe.cell (by show nb < _; omega)).trans n0m, (hbe.cell (by show nb < _; omega)).trans n1m, (hbe.cell (by show b1 < _; omega)).trans cpm⟩
          clear hK K
          try simp only [Act.put, List.setIfInBounds_toArray, List.set_cons_zero, List.set_cons_succ]
          obtain ⟨we, hwe⟩ : ∃ we, Wd.alloc (.cells #[] 3) = we := ⟨_, rfl⟩
          rw [hwe] at hHeld ⊢
          have hoe := own_empty Wd 3
          rw [hwe] at hoe hbe
          have hse : we.heap.size = nb + 1 + 1 + 1 := by rw [← hwe]; simpa using hzd
          have hne : ∀ j u, (nd.coef.map (Value.int .i64))[j]? = some u → we.cell? (ac.add j) = some u := seq_news (hcv0.below (hCd.1.trans (hbe.mono (by omega))))
          refine wpAnyH_ready (rs := [4]) (by kernel_rfl) (by simp) ?_
          refine AllReadyH.cons (by simp only [List.getElem?_toArray, List.getElem?_cons_succ, List.getElem?_cons_zero]; try exact rfl) (fun K hK => ?_) AllReadyH.nil
          refine stepL rfl (.tmp 86) (.tmp 89) _ rfl eltI Wd.heap.size (.slice (some ⟨Wd.heap.size, 0, none⟩) 0 0) 0 cn cc ac [] (nd.coef.map (Value.int .i64)) ?s1_51 hoe rfl (by simp [hcn0]) hne (oneCells_int _ _) hco1 (by omega) (by omega) ?s2_51
          case s1_51 => (simp only [Act.eval]; first | rfl | (go_simp; done))
          intro g cc' w1 hown hgrow hat hlt1
          have hb1 : Below Wd.heap.size Wd w1 := hbe.grown hgrow (by omega) (fun k e => by simp [Value.ownBlock] at e; omega)
          have hM1 := (hb1.block (nb + 1) (by omega)).trans bMd
          have m0 : w1.cell? ⟨nb + 1, 0, none⟩ = some (.slice none 0 0) := cell_heap hM1 rfl
          have m1 : w1.cell? ⟨nb + 1, 1, none⟩ = some (.int .i64 0) := cell_heap hM1 rfl
          have m2 : w1.cell? ⟨nb + 1, 2, none⟩ = some (.int .i64 0) := cell_heap hM1 rfl
          have fm : ∀ j, w1.frozen? ⟨nb + 1, j, none⟩ = false := fun j => by simp [World.frozen?, hM1]
          have hkeep := And.intro ((hb1.cell (p := ⟨nb, 0, none⟩) (by show nb < _; omega)).trans n0m) (And.intro ((hb1.cell (p := ⟨nb, 1, none⟩) (by show nb < _; omega)).trans n1m) ((hb1.cell (p := ⟨b1, 1, none⟩) (by show b1 < _; omega)).trans cpm))
          refine hK.out _ _ ?_ (fun hHeld => ?_)
          · exact hkeep
          clear hK K
          try simp only [Act.put, List.setIfInBounds_toArray, List.set_cons_zero, List.set_cons_succ]
          refine wpAnyH_take (i := 8) (oi := ?oi8_52) (v := ?v8_52) ?hi8_52 (by kernel_rfl) ?hf8_52 (by kernel_rfl) ?hq8_52 ?hy8_52 hHeld ?rest8_52
          case hi8_52 => (simp only [List.getElem?_toArray, List.getElem?_cons_succ, List.getElem?_cons_zero]; try exact rfl)
          case hf8_52 => kernel_rfl
          case hq8_52 => exact fun _ _ _ h => absurd h.1 (fun e => by cases e)
          case hy8_52 => (refine Or.inl ⟨rfl, ?_⟩; intro w hSw; (try dsimp only at hSw); go_simp; try with_reducible rfl)
          try simp only [Act.put, List.setIfInBounds_toArray, List.set_cons_zero, List.set_cons_succ]
          refine wpAnyH_take (i := 13) (oi := ?oi13_53) (v := ?v13_53) ?hi13_53 (by kernel_rfl) ?hf13_53 (by kernel_rfl) ?hq13_53 ?hy13_53 hHeld ?rest13_53
          case hi13_53 => (simp only [List.getElem?_toArray, List.getElem?_cons_succ, List.getElem?_cons_zero]; try exact rfl)
          case hf13_53 => kernel_rfl
          case hq13_53 => exact fun _ _ _ h => absurd h.1 (fun e => by cases e)
          case hy13_53 => (refine Or.inl ⟨rfl, ?_⟩; intro w hSw; (try dsimp only at hSw); go_simp; try with_reducible rfl)
          try simp only [Act.put, List.setIfInBounds_toArray, List.set_cons_zero, List.set_cons_succ]
          refine wpAnyH_ready (rs := [14]) (by kernel_rfl) (by simp) ?_
          refine AllReadyH.cons (by simp only [List.getElem?_toArray, List.getElem?_cons_succ, List.getElem?_cons_zero]; try exact rfl) (fun K hK => ?_) AllReadyH.nil
          go_simp
          refine hK.out _ _ ?_ (fun hHeld => ?_)
          · first | exact ⟨by go_simp, by go_simp, by go_simp⟩ | (obtain ⟨e0, e1, e2⟩ := hHeld; refine ⟨?_, ?_, ?_⟩ <;> (go_simp; done))
          clear hK K
          try simp only [Act.put, List.setIfInBounds_toArray, List.set_cons_zero, List.set_cons_succ]
          refine wpAnyH_take (i := 15) (oi := ?oi15_54) (v := ?v15_54) ?hi15_54 (by kernel_rfl) ?hf15_54 (by kernel_rfl) ?hq15_54 ?hy15_54 hHeld ?rest15_54
          case hi15_54 => (simp only [List.getElem?_toArray, List.getElem?_cons_succ, List.getElem?_cons_zero]; try exact rfl)
          case hf15_54 => kernel_rfl
          case hq15_54 => exact fun _ _ _ h => absurd h.1 (fun e => by cases e)
          case hy15_54 => (refine Or.inl ⟨rfl, ?_⟩; intro w hSw; (try dsimp only at hSw); go_simp; try with_reducible rfl)
          try simp only [Act.put, List.setIfInBounds_toArray, List.set_cons_zero, List.set_cons_succ]
          refine wpAnyH_ready (rs := [16]) (by kernel_rfl) (by simp) ?_
          refine AllReadyH.cons (by simp only [List.getElem?_toArray, List.getElem?_cons_succ, List.getElem?_cons_zero]; try exact rfl) (fun K hK => ?_) AllReadyH.nil
          go_simp
          refine hK.out _ _ ?_ (fun hHeld => ?_)
          · first | exact ⟨by go_simp, by go_simp, by go_simp⟩ | (obtain ⟨e0, e1, e2⟩ := hHeld; refine ⟨?_, ?_, ?_⟩ <;> (go_simp; done))
          clear hK K
          try simp only [Act.put, List.setIfInBounds_toArray, List.set_cons_zero, List.set_cons_succ]
          refine wpAnyH_done (by kernel_rfl) ?_ _
          refine ⟨rfl, ?_⟩
          simp only [Nat.zero_add, List.nil_append] at hown
          try rw [hwl]
          have hnv : ((.slice A2 out.length cap2) : Value).ownBlock ≠ some (nb + 1) := fun e => by have := (own_typ HX0.out.2.2.2.2.2.2.1 _ e).2.2; omega
          obtain ⟨hX6, bM6, hCV6, hk6, hz6, hb6⟩ := forkBox (a1 := nd.at_) (l1 := (out.length : Int) + 1) hXd bMd hnv (by omega) (by omega) hb1 hown
          obtain ⟨W6, hW6⟩ : ∃ W6, ((w1.setCell ⟨nb + 1, 0, none⟩ (.slice (some ⟨g, 0, none⟩) cn cc')).setCell ⟨nb + 1, 1, none⟩ (.int .i64 nd.at_)).setCell ⟨nb + 1, 2, none⟩ (.int .i64 ((out.length : Int) + 1)) = W6 := ⟨_, rfl⟩
          rw [hW6] at hX6 bM6 hCV6 hk6 hz6 hb6 ⊢
          have hC6 : Ch b1 w.heap.size ((.slice A2 out.length cap2) : Value).ownBlock W W6 := ⟨hCd.1.trans hb6, fun k hk e1 e2 e3 => (hk6 k (by omega) (by omega)).trans (hCd.2 k hk e1 e2 e3)⟩
          clear hW6 hHeld hkeep fm m0 m1 m2 hM1 hb1 hgrow hat hlt1 hown hne hoe hbe hwe
          obtain ⟨t0, t1⟩ := hX6.1.cells
          have cp := hX6.2.2.2.1.cells.2
          have m0 : W6.cell? ⟨nb + 1, 0, none⟩ = some (.slice (some ⟨g, 0, none⟩) cn cc') := cell_heap bM6 rfl
          have m1 : W6.cell? ⟨nb + 1, 1, none⟩ = some (.int .i64 nd.at_) := cell_heap bM6 rfl
          have m2 : W6.cell? ⟨nb + 1, 2, none⟩ = some (.int .i64 ((out.length : Int) + 1)) := cell_heap bM6 rfl
          have m3 : W6.cell? ⟨nb + 1, 3, none⟩ = some (.int .i64 0) := cell_heap bM6 rfl
          have m4 : W6.cell? ⟨nb + 1, 4, none⟩ = some (.int .i64 nd.size) := cell_heap bM6 rfl
          obtain ⟨s6, hs6⟩ : ∃ s, W6.heap.size = s := ⟨_, rfl⟩
          have lb6 : nb + 1 < s6 := by omega
          have lb7 : b1 < s6 := by omega
          have hLEN : rs.length = out.length := by first | exact hol | exact hl3 | (rw [List.length_set]; exact hol)
          have hOWN := hX6.2.2.2.2.2.2.1.alloc (.cells #[.slice (some ⟨g, 0, none⟩) cn cc', .int .i64 nd.at_, .int .i64 ((out.length : Int) + 1), .int .i64 0, .int .i64 nd.size] 39)
          rw [hLEN] at hOWN
          have hNEWS := World.news_of_block (heap_alloc_new W6 (.cells #[.slice (some ⟨g, 0, none⟩) cn cc', .int .i64 nd.at_, .int .i64 ((out.length : Int) + 1), .int .i64 0, .int .i64 nd.size] 39))
          rw [hs6] at hNEWS
          have hSZ : (W6.alloc (.cells #[.slice (some ⟨g, 0, none⟩) cn cc', .int .i64 nd.at_, .int .i64 ((out.length : Int) + 1), .int .i64 0, .int .i64 nd.size] 39)).heap.size = s6 + 1 := by simp [hs6]
          have hCV : W6.ownsRow (b1 + 2) 3 1 (.slice (some ⟨g, 0, none⟩) cn cc') (⟨nd.coef, nd.at_, (out.length : Int) + 1, 0, nd.size⟩ : Nd).coef.length ((⟨nd.coef, nd.at_, (out.length : Int) + 1, 0, nd.size⟩ : Nd).coef.map (Value.int .i64)) := by dsimp only; rw [hcn0]; exact hCV6
          gi_wp2_with (gi_at_builtin; refine listIn rfl _ _ 22 rfl eltN b1 (.slice A2 out.length cap2) out.length 1 1 ⟨s6, 0, none⟩ (rs.flatMap ndC) (ndC (.slice (some ⟨g, 0, none⟩) cn cc', ⟨nd.coef, nd.at_, (out.length : Int) + 1, 0, nd.size⟩)) rfl hOWN rfl rfl hNEWS (ndC_one _ _ _ _ _ rfl) (by omega) (by omega) (by have := hX6.2.2.2.2.2.2.2.2.size; simp; omega) (s6 + 1) hSZ ?_; intro g2 cap' w2 hown' hgrow hat hlt; obtain ⟨hX7, hC7, hc7, hf7⟩ := hX6.app hLEN hB1 hCV hown' hgrow (hat.imp id (fun e => by omega)))
          obtain ⟨k1, k2, k3⟩ := round_end (B := b1 + 3 + 1) HX0.out hX7 (hC6.trans hC7) (fun g' hg' => by simp [Value.ownBlock] at hg'; subst hg'; exact hat.imp id (fun e => by omega)) (show (rs ++ [(Value.slice (some ⟨g, 0, none⟩) cn cc', (⟨nd.coef, nd.at_, (out.length : Int) + 1, 0, nd.size⟩ : Nd))]).map (·.2) = fixR ls out (pl.set i out.length) x ++ [newN nd x D out.length] by rw [List.map_append, hR, newN, if_pos hlf]; rfl)
          refine ⟨rfl, k1, k2, ?_⟩
          show PI w b1 q dim D _ ((pre ++ [x]).foldl (stepP ls D) ([], List.replicate q 0)) _
          rw [hst', stepP_eq (by have := HND.out; omega) hxi hnd]
          exact k3
        · skip
          have hX5 := hXW3.below (below_a1 W3 (.cells #[.slice none 0 0, .int .i64 0, .int .i64 0, .int .i64 0, .int .i64 nd.size] 39))
          have hC5 := hCW3.trans (Ch.of_below (below_a1 W3 (.cells #[.slice none 0 0, .int .i64 0, .int .i64 0, .int .i64 0, .int .i64 nd.size] 39)) (by omega))
          have hz5 : (W3.alloc (.cells #[.slice none 0 0, .int .i64 0, .int .i64 0, .int .i64 0, .int .i64 nd.size] 39)).heap.size = nb + 1 + 1 := by simp [hzW3]
          have hOWN := hX5.2.2.2.2.2.2.1.alloc (.cells #[.slice none 0 0, .int .i64 0, .int .i64 0, .int .i64 0, .int .i64 nd.size] 39)
          have hNEWS := World.news_of_block (heap_alloc_new (W3.alloc (.cells #[.slice none 0 0, .int .i64 0, .int .i64 0, .int .i64 0, .int .i64 nd.size] 39)) (.cells #[.slice none 0 0, .int .i64 0, .int .i64 0, .int .i64 0, .int .i64 nd.size] 39))
          have hLEN : rs.length = out.length := by first | exact hol | exact hl3 | (rw [List.length_set]; exact hol)
          rw [hLEN] at hOWN
          rw [hz5] at hNEWS
          have hSZ : ((W3.alloc (.cells #[.slice none 0 0, .int .i64 0, .int .i64 0, .int .i64 0, .int .i64 nd.size] 39)).alloc (.cells #[.slice none 0 0, .int .i64 0, .int .i64 0, .int .i64 0, .int .i64 nd.size] 39)).heap.size = nb + 1 + 1 + 1 := by simp [hzW3]
          have hCV : (W3.alloc (.cells #[.slice none 0 0, .int .i64 0, .int .i64 0, .int .i64 0, .int .i64 nd.size] 39)).ownsRow (b1 + 2) 3 1 (.slice none 0 0) (⟨[], 0, 0, 0, nd.size⟩ : Nd).coef.length ((⟨[], 0, 0, 0, nd.size⟩ : Nd).coef.map (Value.int .i64)) := World.ownsRow_nil _ _ _ _
          have lb1 : b1 < nb + 1 := by omega
          have lb2 : Bx < nb + 1 := by omega
          have lb3 : w.heap.size < nb + 1 := by omega
          have lb4 : w.heap.size + 1 < nb + 1 := by omega
          have lb5 : nb < nb + 1 := by omega
          gi_wp2_with (gi_at_builtin; refine listIn rfl _ _ 22 rfl eltN b1 (.slice A2 out.length cap2) out.length 1 1 ⟨nb + 1 + 1, 0, none⟩ (rs.flatMap ndC) (ndC (.slice none 0 0, ⟨[], 0, 0, 0, nd.size⟩)) rfl hOWN rfl rfl hNEWS (ndC_one _ _ _ _ _ rfl) (by omega) (by omega) (by have := hX5.2.2.2.2.2.2.2.2.size; simp; omega) (nb + 1 + 1 + 1) hSZ ?_; intro g cap' w1 hown' hgrow hat hlt; obtain ⟨hX6, hC6, hc6, hf6⟩ := hX5.app hLEN hB1 hCV hown' hgrow (hat.imp id (fun e => by omega)))
          all_goals try (rename_i hh1 hh2; exfalso; first | (simp [hlf] at hh1 hh2; done) | (simp at hh1 hh2; omega))
          all_goals try (rename_i hh1; exfalso; first | (simp [hlf] at hh1; done) | (simp at hh1; omega))
          all_goals
            obtain ⟨k1, k2, k3⟩ := round_end (B := b1 + 3 + 1) HX0.out hX6 (hC5.trans hC6) (fun g' hg' => by simp [Value.ownBlock] at hg'; subst hg'; exact hat.imp id (fun e => by omega)) (show (rs ++ [(Value.slice none 0 0, (⟨[], 0, 0, 0, nd.size⟩ : Nd))]).map (·.2) = fixR ls out (pl.set i out.length) x ++ [newN nd x D out.length] by rw [List.map_append, hR, newN, if_neg hlf]; rfl)
            refine ⟨rfl, k1, k2, ?_⟩
            show PI w b1 q dim D _ ((pre ++ [x]).foldl (stepP ls D) ([], List.replicate q 0)) _
            rw [hst', stepP_eq (by have := HND.out; omega) hxi hnd]
            exact k3
  case done =>
    intro db W hdb hP hdf
    obtain ⟨pv, rs, hX, h7⟩ := hP.px
    obtain ⟨q1, q2, q3, q4, q5, q6, q8, q9, q10⟩ := hX
    obtain ⟨u0, u1⟩ := q3.cells
    obtain ⟨v0, v1⟩ := q4.cells
    have hsl : ∃ A n c, pv = .slice A n c := by
      rcases q8.2 with ⟨e, e0⟩ | ⟨g, cp, cur, e, _⟩
      · exact ⟨none, 0, 0, e⟩
      · exact ⟨_, _, _, e⟩
    obtain ⟨pA, pn, pc, rfl⟩ := hsl
    have f2 : ∀ o, W.frozen? ⟨w.heap.size + 2, o, none⟩ = false := fun o => by simp [World.frozen?, show W.heap[w.heap.size + 2]? = _ from q3]
    have l2' := (Array.getElem?_eq_some_iff.1 q3).1
    have l4' := (Array.getElem?_eq_some_iff.1 q4).1
    gi_wp2
    obtain ⟨W5, hW5⟩ : ∃ W5, (W.setCell ⟨w.heap.size + 1 + 1, 0, none⟩ (.int .i64 dim)).setCell ⟨w.heap.size + 1 + 1, 1, none⟩ (.slice pA pn pc) = W5 := ⟨_, rfl⟩
    have hk : ∀ k, k ≠ w.heap.size + 2 → W5.heap[k]? = W.heap[k]? := fun k hk => by
      rw [← hW5]
      exact (Below.heap_setCell _ _ _ k hk).trans (Below.heap_setCell _ _ _ k hk)
    have hz5 : W5.heap.size = W.heap.size := by rw [← hW5]; simp
    have q35 : Boxed2 W5 (w.heap.size + 2) dim (.slice pA pn pc) := by
      have m2 := Go.heap_setCell_same W (w.heap.size + 2) 0 _ _ (Value.int .i64 dim) q3
      have m3 := Go.heap_setCell_same (W.setCell ⟨w.heap.size + 2, 0, none⟩ (.int .i64 dim)) (w.heap.size + 2) 1 _ _ (.slice pA pn pc) m2
      rw [← hW5]
      exact m3.trans (by simp)
    rw [hW5]
    have hdf5 : W5.heap[db]? = some (Obj.deferred (some [])) := (hk db (by simp at hdb; omega)).trans hdf
    have hb5 : Below w.heap.size w W5 := by rw [← hW5]; exact (q10.setCell (p := ⟨w.heap.size + 2, 0, none⟩) (by simp) _).setCell (p := ⟨w.heap.size + 2, 1, none⟩) (by simp) _
    have ne2 : ∀ k t, Typ W k t → t ≠ 24 → k ≠ w.heap.size + 2 := fun k t hT ht e => ht ((show Typ W (w.heap.size + 2) t from e ▸ hT).eq ⟨_, _, q3⟩)
    have hown5 := own_keep (w' := W5) q8 (fun k _ hT => hk k (ne2 _ _ hT (by decide)))
    have hcs5 : ∀ r ∈ rs, W5.ownsRow (b1 + 2) 3 1 r.1 r.2.coef.length (r.2.coef.map (Value.int .i64)) := fun r hr => own_keep (q9 r hr) (fun k _ hT => hk k (ne2 _ _ hT (by decide)))
    have hdb2 : w.heap.size + 2 < db := by simp at hdb; omega
    clear q1 q2 q3 q4 q5 q6 q8 q9 u0 u1 v0 v1 hk hdf hW5 ne2 f2
    refine ⟨by simp, .inl ⟨_, _, rfl, run_takeDeferred hdf5, ?_⟩⟩
    have q36 : Boxed2 (W5.putObj db (.deferred none)) (w.heap.size + 2) dim (.slice pA pn pc) := by
      show (W5.putObj db (.deferred none)).heap[w.heap.size + 2]? = _
      exact (World.putObj_heap_other (by omega)).trans q35
    obtain ⟨c0, c1⟩ := q36.cells
    have hownP := ownsRow_putObj hown5 (o := .deferred (some [])) (.deferred none) hdf5 rfl
    have hsl5 : Value.slice pA pn pc = .slice pA rs.length pc := by
      rcases hown5.2 with ⟨e, e0⟩ | ⟨g, cp, cur, e, _⟩
      · injection e with e1 e2 e3; rw [e0, e2]
      · injection e with e1 e2 e3; rw [e2]
    have hSq := (Seq.of_own hownP).more (show w.heap.size ≤ b1 by omega) (Nat.le_refl _)
    refine ⟨.tuple #[.agg #[.int .i64 dim, .slice pA pn pc], .int .i64 0], ?res, ⟨_, rfl, rs, by rw [h7, hv0], hSq, fun r hr => (Seq.of_own (by rw [flat_inC]; exact ownsRow_putObj (hcs5 r hr) (o := .deferred (some [])) (.deferred none) hdf5 rfl)).more (by omega) (Nat.le_refl _)⟩, hb5.trans (belowK_b (w := w) (Nat.le_refl _) W5 db _ _ (by omega) hdf5 rfl rfl)⟩
    case res =>
      simp only [results]
      go_simp
/-- what the whole function gives: the dimension, the nodes, the error's number -/
noncomputable def pruneR (dim : Int) (ls : List Nd) (D : Int) : Int × List Nd × Int := if isTB dim ls = true then (if D < 0 then (0, [], 1) else (dim, ((vsOf dim ls).foldl (stepP ls D) ([], List.replicate ls.length 0)).1, 0)) else (0, [], 100)
theorem Prune_any (D dim : Int) (nv : Value) (ls : List Nd) (lo : Nat) (w : World) (h : Nds w lo w.heap.size nv ls) :
    Calls Tryd.prog 21 #[.agg #[.int .i64 dim, nv], .int .i64 D] w fun e w' => (∃ v, e = .returned (.tuple #[.agg #[.int .i64 (pruneR dim ls D).1, v], .int .i64 (pruneR dim ls D).2.2]) ∧ Nds w' w.heap.size w'.heap.size v (pruneR dim ls D).2.1) ∧ Below w.heap.size w w' := by
  by_cases hg : isTB dim ls = true ∧ ¬ D < 0
  · refine (Prune_in D dim nv ls lo w h (isTB_true.1 hg.1) (by omega)).mono ?_
    intro e w' hh
    unfold pruneR
    rw [if_pos hg.1, if_neg hg.2]
    exact hh
  · have hN := h
    obtain ⟨A, cap, rfl, hc1, hc2, _⟩ := h.form
    have HI := Lib.hid (fun (W : World) (hb : Below w.heap.size w W) => TIs_any (.slice A ls.length cap) ls dim lo W ((hN.below hb).more (Nat.le_refl _) hb.size))
    obtain ⟨q, hq⟩ : ∃ q, ls.length = q := ⟨_, rfl⟩
    rw [hq] at HI hc1 ⊢
    refine callsIn_wide (n := 9) |>.1 ?_
    refine callsIn_of_wp_marks Tryd.func21 rfl trivial ?_ rfl
    simp only [Tryd.ntmps21, List.size_toArray, List.length_cons, List.length_nil, Nat.reduceAdd, Nat.reduceSub, Array.replicate_succ, Array.replicate_zero, List.push_toArray, List.append_toArray, List.nil_append, List.cons_append]
    have hb3 : Below w.heap.size w (((w.alloc (.cells #[.int .i64 dim, .slice A q cap] 24)).alloc (.cells #[.int .i64 D] 3)).alloc (.cells #[.int .i64 0, .slice none 0 0] 24)) := (below_a2 w _ _).alloc (by simp; omega) _
    have hz3 : (((w.alloc (.cells #[.int .i64 dim, .slice A q cap] 24)).alloc (.cells #[.int .i64 D] 3)).alloc (.cells #[.int .i64 0, .slice none 0 0] 24)).heap.size = w.heap.size + 3 := by simp
    have g0 := heap_alloc_new w (.cells #[.int .i64 dim, .slice A q cap] 24)
    have g1 := heap_alloc_new (w.alloc (.cells #[.int .i64 dim, .slice A q cap] 24)) (.cells #[.int .i64 D] 3)
    have g2 := heap_alloc_new ((w.alloc (.cells #[.int .i64 dim, .slice A q cap] 24)).alloc (.cells #[.int .i64 D] 3)) (.cells #[.int .i64 0, .slice none 0 0] 24)
    replace g1 := (Below.heap_alloc _ (.cells #[.int .i64 0, .slice none 0 0] 24) _ (by simp)).trans g1
    replace g0 := (Below.heap_alloc _ (.cells #[.int .i64 0, .slice none 0 0] 24) _ (by simp; omega)).trans ((Below.heap_alloc _ (.cells #[.int .i64 D] 3) _ (by simp)).trans g0)
    obtain ⟨W3, hW3⟩ : ∃ W3, ((w.alloc (.cells #[.int .i64 dim, .slice A q cap] 24)).alloc (.cells #[.int .i64 D] 3)).alloc (.cells #[.int .i64 0, .slice none 0 0] 24) = W3 := ⟨_, rfl⟩
    simp only [World.size_alloc] at g1 g2
    simp only [hW3] at hb3 g0 g1 g2 hz3
    obtain ⟨e0, e1⟩ := Boxed2.cells g0
    cases hT : isTB dim ls with
    | true =>
      have hD : D < 0 := Classical.not_not.1 fun e => hg ⟨hT, e⟩
      have hD0 : decide (D < 0) = true := decide_eq_true hD
      gi_wp2_with (first | (refine ⟨trivial, ?_⟩; gi_at_call 32; (try rw [hW3]); refine (callsIn_wide.2 (HI.out _ hb3)).mono ?_; rintro e w1 ⟨rfl, hb1⟩; rw [hT]; have hz1 := hb1.size; have k1 := hb1.block _ (show w.heap.size + 1 < W3.heap.size by omega); have k2 := hb1.block _ (show w.heap.size + 2 < W3.heap.size by omega); rw [g1] at k1; rw [g2] at k2; have c2 := Boxed.cell k1; obtain ⟨u0, u1⟩ := Boxed2.cells k2; have f2 : ∀ o, w1.frozen? ⟨w.heap.size + 2, o, none⟩ = false := (fun o => by simp [World.frozen?, k2]); have l1 : w.heap.size + 1 < w1.heap.size := (by omega); have l2 : w.heap.size + 2 < w1.heap.size := (by omega)))
      have hp : pruneR dim ls D = (0, [], 1) := by unfold pruneR; rw [if_pos hT, if_pos hD]
      refine ⟨.tuple #[.agg #[.int .i64 0, .slice none 0 0], .int .i64 1], ?_, ⟨_, by rw [hp], by rw [hp]; exact ⟨[], rfl, Seq.nil_, by simp⟩⟩, ((hb3.trans (hb1.mono (by omega))).setCell (p := ⟨w.heap.size + 1 + 1, 0, none⟩) (by show w.heap.size ≤ w.heap.size + 1 + 1; omega) _).setCell (p := ⟨w.heap.size + 1 + 1, 1, none⟩) (by show w.heap.size ≤ w.heap.size + 1 + 1; omega) _⟩
      simp only [results]
      go_simp
    | false =>
      gi_wp2_with (first | (refine ⟨trivial, ?_⟩; gi_at_call 32; (try rw [hW3]); refine (callsIn_wide.2 (HI.out _ hb3)).mono ?_; rintro e w1 ⟨rfl, hb1⟩; rw [hT]; have hz1 := hb1.size; have k1 := hb1.block _ (show w.heap.size + 1 < W3.heap.size by omega); have k2 := hb1.block _ (show w.heap.size + 2 < W3.heap.size by omega); rw [g1] at k1; rw [g2] at k2; have c2 := Boxed.cell k1; obtain ⟨u0, u1⟩ := Boxed2.cells k2; have f2 : ∀ o, w1.frozen? ⟨w.heap.size + 2, o, none⟩ = false := (fun o => by simp [World.frozen?, k2]); have l1 : w.heap.size + 1 < w1.heap.size := (by omega); have l2 : w.heap.size + 2 < w1.heap.size := (by omega)))
      have hp : pruneR dim ls D = (0, [], 100) := by unfold pruneR; rw [if_neg (by rw [hT]; decide)]
      refine ⟨.tuple #[.agg #[.int .i64 0, .slice none 0 0], .int .i64 100], ?_, ⟨_, by rw [hp], by rw [hp]; exact ⟨[], rfl, Seq.nil_, by simp⟩⟩, ((hb3.trans (hb1.mono (by omega))).setCell (p := ⟨w.heap.size + 1 + 1, 0, none⟩) (by show w.heap.size ≤ w.heap.size + 1 + 1; omega) _).setCell (p := ⟨w.heap.size + 1 + 1, 1, none⟩) (by show w.heap.size ≤ w.heap.size + 1 + 1; omega) _⟩
      simp only [results]
      go_simp
end Go.Proofs.YtmmgfelifmdnbaaDoor.ItrP
