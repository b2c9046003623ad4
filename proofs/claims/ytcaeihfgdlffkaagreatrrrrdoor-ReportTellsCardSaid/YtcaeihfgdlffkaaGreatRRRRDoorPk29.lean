/- What a state's window is like, after the document, walked (copseref17.Points, copseref28.Scores, copseref37.Of; printed by mkrof.py). -/
import Derived.Test.YtcaeihfgdlffkaaGreatRRRRDoorPk20
import Derived.Test.YtcaeihfgdlffkaaGreatRRRRDoorPk26
import Derived.Test.YtcaeihfgdlffkaaGreatRRRRDoorPk28
import Derived.Test.YtcaeihfgdlffkaaGreatRRRRDoorPk01
namespace Go.Proofs.YtcaeihfgdlffkaaGreatRRRRDoor.RofW
set_option linter.unusedVariables false
set_option linter.unusedSimpArgs false
open Go.RowKit Base SeqM CfM StM StV RptO RptC ClsW ColW LevM LevW VecW DevW OfeW RtxM ScoX OfsW HyW
open RcsW (RColumns_any)
open RriS (Small RRightS_any)
theorem gi {L : List Oper} {i : Nat} {o : Oper} (h : L[i]? = some o) : L.toArray[i]? = some o := by simpa using h
/-- a whole block is loaded in a region that draws its order -/
theorem yieldsIf_load_row {P : Program} {ops : Array Oper} {S : World → Prop} {op : Oper} {a : Act} (hw : Region.wanted op (yielded ops a.tmps) = true) (ty : TypeId) (x : Operand) (ho : op.op = .load ty x)
    (g : Nat) (hx : a.eval x = .pointer (some ⟨g, 0, none⟩)) (t : TypeId) (cs : Array Value) (fr : Nat × Nat) (d : TypeDesc) (hS : ∀ w, S w → w.heap[g]? = some (.cells cs t fr))
    (hu : P.underlying ty = some d) (hd : (match d with | .struct _ | .array _ _ => true | _ => false) = true) (hi : (P.info? ty).map (·.size) = some cs.size) : YieldsIf P ops S op (.agg cs) a :=
  .inl ⟨hw, fun w hw' => by
    unfold execOp
    simp only [ho, hx, Instr.loadAt, Instr.sureAddr, Sem.run_bind, Sem.run_pure, Result.andThen_ok, run_loadVar_row w g t ty cs fr d (hS w hw') hu hd hi]⟩
def PtRel (rs : List (Value × Sn)) (X : World) (p i : Value) (wr : World) : Prop := ∃ (k cap : Nat) (A : Option Addr), k ≤ rs.length ∧ i = .int .i64 (k : Int) ∧ p = .slice A k cap ∧
  wr.ownsRow X.heap.size 32 1 (.slice A k cap) k ((rs.take k).flatMap vxC) ∧ Below X.heap.size X wr
set_option maxHeartbeats 4000000 in
set_option maxRecDepth 100000 in
theorem RPoints_any (v : Value) (l : List Sn) (w : World) (h : Sns w 0 w.heap.size v l) (hl : l.length ≤ 1000000) :
    Calls Tryz.prog 20 #[v] w fun e w' => (∃ u, e = .returned u ∧ Vecs w' 0 w'.heap.size u (ptsL l)) ∧ Below w.heap.size w w' := by
  obtain ⟨rs, rfl, hs, hnd⟩ := h
  have HND := Lib.hid hnd
  obtain ⟨A, cap, rfl, hc1, hc2, hr, _⟩ := hs
  unfold maxLen at hc2
  have HR := Lib.hid hr
  obtain ⟨n, hn⟩ : ∃ n, rs.length = n := ⟨_, rfl⟩
  have HN := Lib.hid hn
  rw [List.length_map, hn] at hl
  rw [hn] at hc1 ⊢
  clear hnd hr hn
  go_enter Tryz.func20, Tryz.ntmps20
  go_wp2_with fail
  go_loopw [3, 4] (fun o i wr => PtRel rs w o i wr) (fun _ i _ => n - (intOf i).toNat)
  case atStart => exact ⟨0, 0, none, Nat.zero_le _, rfl, rfl, World.ownsRow_nil _ _ _ _, Below.refl _ _⟩
  case round =>
    obtain ⟨k, cap3, A3, hk, rfl, rfl, hown, hbr⟩ := hrel
    rw [HN.out] at hk
    have HO := Lib.hid hown
    have HBR := Lib.hid hbr
    by_cases hlt : k < n
    · obtain ⟨ad, y, rfl, _, hbk, hy, hcs⟩ := rdk snC_len (HR.out.below hbr) (i := k) (by rw [HN.out]; exact hlt)
      obtain ⟨XA, xc, hxf, hxc1, hxc2, _, _⟩ := HND.out y (List.mem_of_getElem? hy)
      unfold maxLen at hxc2
      obtain ⟨xv, id, xs, p, q, sc⟩ := y
      dsimp only at hxf hcs
      subst hxf
      obtain ⟨xn, hxn⟩ : ∃ xn, xs.length = xn := ⟨_, rfl⟩
      have HTK := Lib.hid (take_next hy)
      rw [hxn] at hcs HTK hxc1
      have t1 : wr.cell? ⟨(ad.add (k * 5)).block, (ad.add (k * 5)).off + 1, none⟩ = some (.slice XA xn xc) := by rw [add_off _ _ _ (by decide)]; exact hcs 1 _ rfl
      have hk1 : k < 1073741824 := by omega
      clear hown hbr hxn hy hcs
      go_wp2_with (at_builtin; refine listS rfl (.tmp 11) (.tmp 17) _ rfl eltP w.heap.size wr.heap.size _ _ k 1 _ _ rfl (HO.out.alloc _) rfl (own_one wr #[.slice XA xn xc] _ 1 rfl) (by simp [Value.oneCell']) (by omega) (by omega) (by have := HBR.out.size; simp; omega) ?_; intro o' w3 hown3 hg3)
      have HF := Lib.hid hown3
      have HBA := Lib.hid (show Below w.heap.size w w3 from below_own (HBR.out.alloc HBR.out.size _) (HO.out.alloc _) hg3 (Nat.le_refl _) (by have := HBR.out.size; simp; omega))
      clear hown3 hg3
      obtain ⟨g6, cap6, e6, -, -⟩ := HF.out.form (by omega)
      subst e6
      go_wp2_with fail
      refine ⟨⟨k + 1, cap6, some ⟨g6, 0, none⟩, by rw [HN.out]; omega, by go_num, rfl, ?_, HBA.out⟩, by simp [intOf]; omega⟩
      rw [HTK.out, List.flatMap_append]
      exact HF.out
    · have hkn : k = n := by omega
      clear hown hbr
      go_wp2_with fail
      go_ret
      have hw := HO.out
      rw [List.take_of_length_le (by rw [HN.out]; omega)] at hw
      have hk3 : k = rs.length := by rw [HN.out]; exact hkn
      rw [hk3] at hw
      refine ⟨⟨_, rfl, ?_⟩, HBR.out⟩
      rw [hk3]
      exact vecs_of hw (fun r hr => ((HND.out r hr).below HBR.out).more (Nat.le_refl _) HBR.out.size)
def RsRel (rs : List (Value × Sn)) (X : World) (s i : Value) (wr : World) : Prop := ∃ (k m cap : Nat) (A : Option Addr), k ≤ rs.length ∧ i = .int .i64 (k : Int) ∧ s = .slice A m cap ∧ m ≤ k ∧
  wr.ownsRow X.heap.size 55 2 (.slice A m cap) m ((scoL ((rs.take k).map (·.2))).flatMap scC) ∧ m = (scoL ((rs.take k).map (·.2))).length ∧ Below X.heap.size X wr
set_option maxHeartbeats 4000000 in
set_option maxRecDepth 100000 in
theorem RScores_any (s : St) (wv fv av : Value) (w : World) (h : Sns w 0 w.heap.size wv s.win) (hv : (∃ a n c, fv = .slice a n c) ∧ ∃ a n c, av = .slice a n c) (hl : s.win.length ≤ 1000000) :
    Calls Tryz.prog 22 #[.agg (stC s wv fv av).toArray] w fun e w' => (∃ u, e = .returned u ∧ Seq 2 scC w' w.heap.size w'.heap.size u (scoL s.win)) ∧ Below w.heap.size w w' := by
  obtain ⟨rs, hrs, hsq, _⟩ := h
  obtain ⟨a1, k1, e1, hc1, hk1b, hrd, _⟩ := hsq
  obtain ⟨⟨a2, n2, k2, rfl⟩, a3, n3, k3, rfl⟩ := hv
  unfold maxLen at hk1b
  have HR := Lib.hid hrd
  subst e1
  obtain ⟨n, hn⟩ : ∃ n, rs.length = n := ⟨_, rfl⟩
  have HN := Lib.hid hn
  obtain ⟨⟨c0, c1, c2, c3, c4, c5, c6, c7, c8, c9, c10⟩, count, last, seq, win, forest, alerts⟩ := s
  dsimp only at hrs hl ⊢
  subst hrs
  rw [List.length_map, hn] at hl
  unfold stC CfM.cfC
  dsimp only [List.cons_append, List.nil_append]
  rw [hn] at hc1 ⊢
  clear hrd hn
  obtain ⟨W, eW⟩ : ∃ W, w.alloc (.cells #[.int .i64 c0, .int .i64 c1, .int .i64 c2, .int .i64 c3, .int .i64 c4, .int .i64 c5, .int .i64 c6, .int .i64 c7, .int .i64 c8, .int .i64 c9, .int .i64 c10, .int .i64 count, .int .i64 last, .int .i64 seq, .slice a1 n k1, .slice a2 n2 k2, .slice a3 n3 k3] 28) = W := ⟨_, rfl⟩
  have HB := Lib.hid (show Below w.heap.size w W by rw [← eW]; exact below_a1 _ _)
  have HCS := Lib.hid (show ∀ W' : World, Below W.heap.size W W' → W'.cell? ⟨w.heap.size, 14, none⟩ = some (.slice a1 n k1) by
    intro W' hb
    refine keepA hb ?_
    subst eW
    go_simp)
  go_enter Tryz.func22, Tryz.ntmps22
  go_wp2_with fail
  go_loopw [3, 4] (fun o i wr => RsRel rs W o i wr) (fun _ i _ => n - (intOf i).toNat)
  case atStart => exact ⟨0, 0, 0, none, Nat.zero_le _, rfl, rfl, Nat.le_refl _, World.ownsRow_nil _ _ _ _, rfl, Below.refl _ _⟩
  case round =>
    obtain ⟨k, m, cap3, A3, hk, rfl, rfl, hmk, hown, hml, hbr⟩ := hrel
    rw [HN.out] at hk
    have HO := Lib.hid hown
    have HBR := Lib.hid hbr
    have HML := Lib.hid hml
    have HMK := Lib.hid hmk
    have d14 := HCS.out wr hbr
    have hbw := bt hbr HB.out
    clear hmk hml hown
    by_cases hlt : k < n
    · obtain ⟨ad, y, rfl, _, hbk, hy, hcs⟩ := rdk snC_len (HR.out.below hbw) (i := k) (by rw [HN.out]; exact hlt)
      obtain ⟨xv, id, xs, p, q, sc⟩ := y
      have HNX := Lib.hid (show scoL ((rs.take (k + 1)).map (·.2)) = scoL ((rs.take k).map (·.2)) ++ (if sc = true then [(p, q)] else []) by
        rw [take_next hy, List.map_append, List.map_cons, List.map_nil, sco_snoc])
      have gf : ∀ j u, (snC (xv, ⟨id, xs, p, q, sc⟩))[j]? = some u → j ≠ 0 → wr.cell? ⟨(ad.add (k * 5)).block, (ad.add (k * 5)).off + j, none⟩ = some u := fun j u hu hj => by rw [add_off _ _ _ hj]; exact hcs j u hu
      have g2 := gf 2 _ rfl (by decide)
      have g3 := gf 3 _ rfl (by decide)
      have g4 := gf 4 _ rfl (by decide)
      dsimp only at g2 g3 g4
      have hm1 : m < 1073741824 := by have := HMK.out; omega
      have HM1 := Lib.hid hm1
      clear gf hcs hbr hbw hy hm1
      cases sc
      · have HE := Lib.hid (show scoL ((rs.take (k + 1)).map (·.2)) = scoL ((rs.take k).map (·.2)) by rw [HNX.out]; simp)
        go_wp2_with fail
        exact ⟨⟨k + 1, m, cap3, A3, by rw [HN.out]; omega, by go_num, rfl, by have := HMK.out; omega, by rw [HE.out]; exact HO.out, by rw [HE.out]; exact HML.out, HBR.out⟩, by simp [intOf]; omega⟩
      · have HE := Lib.hid (show scoL ((rs.take (k + 1)).map (·.2)) = scoL ((rs.take k).map (·.2)) ++ [(p, q)] by rw [HNX.out]; simp)
        go_wp2_with (
          at_builtin
          refine listS rfl (.tmp 18) (.tmp 25) _ rfl eltS W.heap.size wr.heap.size _ _ m 1 _ _ rfl (HO.out.alloc _) rfl (own_one wr #[.int .i64 p, .int .i64 q] _ 2 rfl) (by simp [Value.oneCell']) (by omega) (by have := HM1.out; omega) (by have := HBR.out.size; simp; omega) ?_
          intro o4 w4 hown4 hg4
          have HS4 := Lib.hid hown4
          have HBA4 := Lib.hid (show Below W.heap.size W w4 from below_own (HBR.out.alloc HBR.out.size _) (HO.out.alloc _) hg4 (Nat.le_refl _) (by have := HBR.out.size; simp; omega))
          clear hown4 hg4
          obtain ⟨g7, cap7, e7, -, -⟩ := HS4.out.form (by omega)
          subst e7)
        exact ⟨⟨k + 1, m + 1, cap7, _, by rw [HN.out]; omega, by go_num, rfl, by have := HMK.out; omega, by rw [HE.out, List.flatMap_append]; exact HS4.out, by rw [HE.out, List.length_append, ← HML.out]; rfl, HBA4.out⟩, by simp [intOf]; omega⟩
    · have hkn : k = n := by omega
      clear hbr hbw
      go_wp2_with fail
      go_ret
      have hw := HO.out
      have hm := HML.out
      rw [List.take_of_length_le (by rw [HN.out]; omega)] at hw hm
      refine ⟨⟨_, rfl, ?_⟩, bt HBR.out HB.out⟩
      rw [hm] at hw ⊢
      exact (Seq.of_own hw).more HB.out.size (Nat.le_refl _)
set_option maxHeartbeats 8000000 in
set_option maxRecDepth 100000 in
theorem ROf_any (s : St) (wv fv av : Value) (w : World) (h : StIn w w.heap.size s wv fv av) (hi : StI s) (hsm : Small s) (hl : s.win.length ≤ 1000000) :
    Calls Tryz.prog 7 #[.agg (stC s wv fv av).toArray] w (OsPost s w) := by
  have HR := Lib.hid (fun W (hw : Below w.heap.size w W) => RRightS_any s wv fv av W (h.up hw) hi hsm)
  have HYES := Lib.hid (fun (h : rightB s = true) => And.intro (rep_yes h) (right_win h))
  have HNO := Lib.hid (fun (h : rightB s = false) => rep_no h)
  have HFI := Lib.hid (show Fits2 (scoL s.win) from fun y hy => by obtain ⟨x, hx, _, rfl⟩ := scoL_mem hy; exact (hi.2.2.2.2.1 x hx).2)
  have HPT := Lib.hid (fun W (hw : Below w.heap.size w W) => RPoints_any wv s.win W (h.up hw).1 hl)
  obtain ⟨a1, k1, e1, hk1, hk1b, _⟩ := h.1.form
  obtain ⟨a2, k2, e2, _⟩ := h.2.1.form
  obtain ⟨a3, k3, e3, _⟩ := h.2.2
  have HSC := Lib.hid (fun W (hw : Below w.heap.size w W) hv => RScores_any s wv fv av W (h.up hw).1 hv hl)
  unfold OsPost
  generalize repL s = RP at *
  generalize repE s = RE at *
  generalize s.forest.length = n2 at *
  generalize s.alerts.length = n3 at *
  subst e1 e2 e3
  replace HSC := Lib.hid (fun W (hw : Below w.heap.size w W) => HSC.out W hw ⟨⟨_, _, _, rfl⟩, _, _, _, rfl⟩)
  obtain ⟨n, hn⟩ : ∃ n, s.win.length = n := ⟨_, rfl⟩
  have HN := Lib.hid hn
  rw [hn] at hk1 HR HPT HSC ⊢
  obtain ⟨⟨c0, c1, c2, c3, c4, c5, c6, c7, c8, c9, c10⟩, count, last, seq, win, forest, alerts⟩ := s
  generalize rightB ⟨⟨c0, c1, c2, c3, c4, c5, c6, c7, c8, c9, c10⟩, count, last, seq, win, forest, alerts⟩ = RB at *
  unfold stC at HR HSC ⊢
  unfold CfM.cfC at HR HSC ⊢
  dsimp only [List.cons_append, List.nil_append] at HR HYES HNO HFI HPT HSC HN ⊢
  clear h hi hn hsm hl
  obtain ⟨W0, eW0⟩ : ∃ W, w.alloc (.cells #[.int .i64 c0, .int .i64 c1, .int .i64 c2, .int .i64 c3, .int .i64 c4, .int .i64 c5, .int .i64 c6, .int .i64 c7, .int .i64 c8, .int .i64 c9, .int .i64 c10, .int .i64 count, .int .i64 last, .int .i64 seq, .slice a1 n k1, .slice a2 n2 k2, .slice a3 n3 k3] 28) = W := ⟨_, rfl⟩
  have HB0 := Lib.hid (show Below w.heap.size w W0 by rw [← eW0]; exact below_a1 _ _)
  have HSB0 := Lib.hid (show W0.heap[w.heap.size]? = some (.cells #[.int .i64 c0, .int .i64 c1, .int .i64 c2, .int .i64 c3, .int .i64 c4, .int .i64 c5, .int .i64 c6, .int .i64 c7, .int .i64 c8, .int .i64 c9, .int .i64 c10, .int .i64 count, .int .i64 last, .int .i64 seq, .slice a1 n k1, .slice a2 n2 k2, .slice a3 n3 k3] 28 (0, 0)) by rw [← eW0]; exact heap_alloc_new w _)
  have HZ0 := Lib.hid (show W0.heap.size = w.heap.size + 1 by rw [← eW0]; simp)
  obtain ⟨W, eW⟩ : ∃ W, W0.alloc (.cells #[.int .i64 0, .slice none 0 0, .slice none 0 0] 34) = W := ⟨_, rfl⟩
  have HB := Lib.hid (show Below w.heap.size w W by rw [← eW]; exact HB0.out.alloc HB0.out.size _)
  have HSB := Lib.hid (show ∀ W', Below W.heap.size W W' → W'.heap[w.heap.size]? = some (.cells #[.int .i64 c0, .int .i64 c1, .int .i64 c2, .int .i64 c3, .int .i64 c4, .int .i64 c5, .int .i64 c6, .int .i64 c7, .int .i64 c8, .int .i64 c9, .int .i64 c10, .int .i64 count, .int .i64 last, .int .i64 seq, .slice a1 n k1, .slice a2 n2 k2, .slice a3 n3 k3] 28 (0, 0)) by
    intro W' hb
    rw [hb.block _ (by rw [← eW]; have := HZ0.out; simp; omega), ← eW, Below.heap_alloc _ _ _ (by have := HZ0.out; omega)]
    exact HSB0.out)
  have HRB := Lib.hid (show ∀ W', Below W.heap.size W W' → ((W'.cell? ⟨W0.heap.size, 0, none⟩ = some (.int .i64 0) ∧ W'.cell? ⟨W0.heap.size, 1, none⟩ = some (.slice none 0 0) ∧ W'.cell? ⟨W0.heap.size, 2, none⟩ = some (.slice none 0 0)) ∧ W'.frozen? ⟨W0.heap.size, 0, none⟩ = false ∧ W'.frozen? ⟨W0.heap.size, 1, none⟩ = false ∧ W'.frozen? ⟨W0.heap.size, 2, none⟩ = false) by
    intro W' hb
    have hz : W0.heap.size < W.heap.size := by rw [← eW]; simp
    refine ⟨⟨keepA hb ?_, keepA hb ?_, keepA hb ?_⟩, (hb.frozen (p := ⟨W0.heap.size, 0, none⟩) hz).trans ?_, (hb.frozen (p := ⟨W0.heap.size, 1, none⟩) hz).trans ?_, (hb.frozen (p := ⟨W0.heap.size, 2, none⟩) hz).trans ?_⟩ <;> (rw [← eW]; clear eW; go_simp))
  have l2 : w.heap.size ≤ W0.heap.size := HB0.out.size
  have hWW0 : W0.heap.size < W.heap.size := by rw [← eW]; simp
  go_enter Tryz.func7, Tryz.ntmps7
  go_wp2_with (refine (id ?_ : wpList _ _ _ (⟨some 9, .load _ _, _, _, _, _⟩ :: _) _ _); refine wpList_load_row rfl 28 (.tmp 1) rfl w.heap.size (by rfl) _ _ _ _ (HSB.out W (Below.refl _ _)) Tryz.underlying28 rfl (by kernel_rfl) ?_)
  refine (HR.out _ HB.out).mono ?_
  rintro e w1 ⟨rfl, hb1⟩
  have HB1 := Lib.hid hb1
  have hz1 : w.heap.size < w1.heap.size := (Array.getElem?_eq_some_iff.1 (HSB.out w1 hb1)).1
  have hz2 : W0.heap.size < w1.heap.size := Nat.lt_of_lt_of_le hWW0 hb1.size
  have HZ := Lib.hid (And.intro hz1 hz2)
  have st : ∀ (Y : World) (b j : Nat) (u : Value), w.heap.size ≤ b → Below w.heap.size w Y → Below w.heap.size w (Y.setCell ⟨b, j, none⟩ u) := fun Y b j u hb h => h.setCell (p := ⟨b, j, none⟩) hb u
  have HST := Lib.hid st
  cases RB
  · obtain ⟨erp, ere⟩ := HNO.out rfl
    subst erp ere
    obtain ⟨⟨r0, r1, r2⟩, q0, q1, q2⟩ := HRB.out w1 hb1
    clear hb1 st
    go_wp2
    refine bodyPost_ret (v := .tuple #[.agg #[.int .i64 0, .slice none 0 0, .slice none 0 0], .int .i64 280]) (by simp [results, Tryz.results7, go_sem, *]) rfl ?_
    exact ⟨⟨_, _, rfl, Seq.nil_, Seq.nil_⟩, HST.out _ _ _ _ l2 (HST.out _ _ _ _ l2 (HST.out _ _ _ _ l2 (HB.out.trans (HB1.out.mono HB.out.size))))⟩
  · obtain ⟨⟨erp, ere⟩, hcf, hn256⟩ := HYES.out rfl
    rw [HN.out] at hn256
    subst ere
    have HRP := Lib.hid erp
    clear erp hcf
    have s14 : w1.cell? ⟨w.heap.size, 14, none⟩ = some (.slice a1 n k1) := by rw [cell_of_row _ _ _ _ _ _ (HSB.out w1 hb1)]; rfl
    have HBX0 := Lib.hid (below_a1 w1 (.cells #[.int .i64 (n : Int), .slice none 0 0, .slice none 0 0] 34))
    clear hb1 st
    go_wp2_with fail
    generalize eX : w1.alloc (.cells #[.int .i64 (n : Int), .slice none 0 0, .slice none 0 0] 34) = X at *
    have HBXW := Lib.hid (show Below W.heap.size W X from bt HBX0.out HB1.out)
    have HZX := Lib.hid (show w1.heap.size < X.heap.size by rw [← eX]; simp)
    have HXC := Lib.hid (show ∀ W', Below X.heap.size X W' → ((W'.cell? ⟨w1.heap.size, 0, none⟩ = some (.int .i64 (n : Int)) ∧ W'.cell? ⟨w1.heap.size, 1, none⟩ = some (.slice none 0 0) ∧ W'.cell? ⟨w1.heap.size, 2, none⟩ = some (.slice none 0 0)) ∧ W'.frozen? ⟨w1.heap.size, 0, none⟩ = false ∧ W'.frozen? ⟨w1.heap.size, 1, none⟩ = false ∧ W'.frozen? ⟨w1.heap.size, 2, none⟩ = false) by
      intro W' hb
      have hz : w1.heap.size < X.heap.size := HZX.out
      refine ⟨⟨keepA hb ?_, keepA hb ?_, keepA hb ?_⟩, (hb.frozen (p := ⟨w1.heap.size, 0, none⟩) hz).trans ?_, (hb.frozen (p := ⟨w1.heap.size, 1, none⟩) hz).trans ?_, (hb.frozen (p := ⟨w1.heap.size, 2, none⟩) hz).trans ?_⟩ <;> (rw [← eX]; clear eX; go_simp))
    have HS4 := Lib.hid (show ∀ W', Below X.heap.size X W' → (W'.cell? ⟨w.heap.size, 14, none⟩ = some (.slice a1 n k1) ∧ W'.cell? ⟨w.heap.size, 0, none⟩ = some (.int .i64 c0)) by
      intro W' hb
      have h9 := HSB.out W' (bt hb HBXW.out)
      exact ⟨by rw [cell_of_row _ _ _ _ _ _ h9]; rfl, by rw [cell_of_row _ _ _ _ _ _ h9]; rfl⟩)
    obtain ⟨CE, hCE⟩ : ∃ E, colsE (ptsL win) c0 = E := ⟨_, rfl⟩
    obtain ⟨LE, hLE⟩ : ∃ E, levE (scoL win) c3 = E := ⟨_, rfl⟩
    have HCO := Lib.hid (fun v W hv => RColumns_any v (ptsL win) c0 0 W hv)
    have HLV := Lib.hid (fun v W hh => RLevels_any v (scoL win) c3 W hh HFI.out)
    unfold ClPost at HCO
    unfold LvPost at HLV
    rw [hCE] at HCO
    rw [hLE] at HLV
    generalize colsL (ptsL win) c0 = CL at *
    generalize levL (scoL win) c3 = LL at *
    clear s14 eX hCE hLE
    refine regionZ 11 (fun w' => w'.cell? ⟨w.heap.size, 14, none⟩ = some (.slice a1 n k1) ∧ w'.cell? ⟨w.heap.size, 0, none⟩ = some (.int .i64 c0)) (by kernel_rfl) (HS4.out _ (Below.refl _ X).drew) (fun hH => ?_)
    refine takeZ 0 (v := ?_) (gi rfl) (by kernel_rfl) (fun _ _ _ h => h) hH (.inl ⟨rfl, fun w hW => ?_⟩) ?_
    rotate_left
    · (go_simp; try with_reducible rfl)
    try simp only [Act.put, List.setIfInBounds_toArray, List.set_cons_zero, List.set_cons_succ]
    refine takeZ 1 (v := ?_) (gi rfl) (by kernel_rfl) (fun _ _ _ h => h) hH (.inl ⟨rfl, fun w hW => ?_⟩) ?_
    rotate_left
    · (obtain ⟨hW0, hW1⟩ := hW; go_simp; try with_reducible rfl)
    try simp only [Act.put, List.setIfInBounds_toArray, List.set_cons_zero, List.set_cons_succ]
    refine takeZ 3 (v := ?_) (gi rfl) (by kernel_rfl) (fun _ _ _ h => h) hH (.inl ⟨rfl, fun w hW => ?_⟩) ?_
    rotate_left
    · (go_simp; try with_reducible rfl)
    try simp only [Act.put, List.setIfInBounds_toArray, List.set_cons_zero, List.set_cons_succ]
    refine takeZ 4 (v := ?_) (gi rfl) (by kernel_rfl) (fun _ _ _ h => h) hH (.inl ⟨rfl, fun w hW => ?_⟩) ?_
    rotate_left
    · (go_simp; try with_reducible rfl)
    try simp only [Act.put, List.setIfInBounds_toArray, List.set_cons_zero, List.set_cons_succ]
    refine takeZ 5 (v := ?_) (gi rfl) (by kernel_rfl) (fun _ _ _ h => h) hH (.inl ⟨rfl, fun w hW => ?_⟩) ?_
    rotate_left
    · (obtain ⟨hW0, hW1⟩ := hW; go_simp; try with_reducible rfl)
    try simp only [Act.put, List.setIfInBounds_toArray, List.set_cons_zero, List.set_cons_succ]
    refine oneZ 2 (by kernel_rfl) (gi rfl) (fun K hK => ?_)
    try simp only [Act.put, List.setIfInBounds_toArray, List.set_cons_zero, List.set_cons_succ]
    go_simp
    refine (HPT.out X.drew (bt (Below.refl _ X).drew (bt HBXW.out HB.out))).mono ?_
    rintro e wA ⟨⟨u, rfl, hu⟩, hbA⟩
    have HBA := Lib.hid (show Below X.heap.size X wA from bt hbA (Below.refl _ X).drew)
    have HPV := Lib.hid hu
    obtain ⟨Au, cu, rfl, hcu1, hcu2, _⟩ := hu.form
    have HLA := Lib.hid (show w1.heap.size < wA.heap.size from Nat.lt_of_lt_of_le HZX.out HBA.out.size)
    obtain ⟨pl, hpl⟩ : ∃ pl, (ptsL win).length = pl := ⟨_, rfl⟩
    rw [hpl] at HPV hcu1 ⊢
    clear hbA hu hpl
    refine hK.out _ _ (fun _ => HS4.out _ HBA.out) (fun hH => ?_)
    replace hH := hH (by decide)
    clear hK K
    try simp only [Act.put, List.setIfInBounds_toArray, List.set_cons_zero, List.set_cons_succ]
    refine oneZ 6 (by kernel_rfl) (gi rfl) (fun K hK => ?_)
    try simp only [Act.put, List.setIfInBounds_toArray, List.set_cons_zero, List.set_cons_succ]
    go_simp
    refine (HCO.out _ wA HPV.out).mono ?_
    rintro e wB ⟨⟨u1, rfl, hu1⟩, hbB⟩
    obtain ⟨au, ku, rfl⟩ := row_form hu1
    have HU1 := Lib.hid (show Seq 6 colC wB wA.heap.size wB.heap.size (.slice au CL.length ku) CL from Seq.of_own hu1)
    have HBB := Lib.hid (bt hbB HBA.out)
    clear hbB hu1
    refine hK.out _ _ (fun _ => HS4.out _ HBB.out) (fun hH => ?_)
    replace hH := hH (by decide)
    clear hK K
    try simp only [Act.put, List.setIfInBounds_toArray, List.set_cons_zero, List.set_cons_succ]
    refine takeZ 7 (v := ?_) (gi rfl) (by kernel_rfl) (fun _ _ _ h => h) hH (.inl ⟨rfl, fun w hW => ?_⟩) ?_
    rotate_left
    · (go_simp; try with_reducible rfl)
    try simp only [Act.put, List.setIfInBounds_toArray, List.set_cons_zero, List.set_cons_succ]
    refine takeZ 8 (v := ?_) (gi rfl) (by kernel_rfl) (fun _ _ _ h => h) hH (.inl ⟨rfl, fun w hW => ?_⟩) ?_
    rotate_left
    · (go_simp; try with_reducible rfl)
    try simp only [Act.put, List.setIfInBounds_toArray, List.set_cons_zero, List.set_cons_succ]
    refine takeZ 9 (v := ?_) (gi rfl) (by kernel_rfl) (fun _ _ _ h => h) hH (.inl ⟨rfl, fun w hW => ?_⟩) ?_
    rotate_left
    · (go_simp; try with_reducible rfl)
    try simp only [Act.put, List.setIfInBounds_toArray, List.set_cons_zero, List.set_cons_succ]
    refine takeZ 10 (v := ?_) (gi rfl) (by kernel_rfl) (fun _ _ _ h => h) hH (.inl ⟨rfl, fun w hW => ?_⟩) ?_
    rotate_left
    · (go_simp; try with_reducible rfl)
    try simp only [Act.put, List.setIfInBounds_toArray, List.set_cons_zero, List.set_cons_succ]
    refine yieldZ 11 (v := ?_) (by kernel_rfl) (gi rfl) hH (.inl ⟨rfl, fun w hW => ?_⟩) ?_
    rotate_left
    · (go_simp; try with_reducible rfl)
    try simp only [Act.put, List.setIfInBounds_toArray, List.set_cons_zero, List.set_cons_succ]
    refine doneZ (by kernel_rfl) ?_ _
    clear hH
    have hcl : CL.length ≤ ku ∧ ku ≤ 9223372036854775807 := by
      obtain ⟨A', c', e', q1, q2, _⟩ := HU1.out
      injection e' with _ _ e3
      subst e3
      unfold maxLen at q2
      exact ⟨q1, q2⟩
    obtain ⟨⟨y0, y1, y2⟩, f0, f1, f2⟩ := HXC.out wB HBB.out
    have hne : w.heap.size ≠ w1.heap.size := by have := HZ.out; omega
    generalize hcln : CL.length = cl at *
    go_wp2_with fail
    have z0 : (wB.setCell ⟨w1.heap.size, 1, none⟩ (.slice au cl ku)).cell? ⟨w1.heap.size, 0, none⟩ = some (.int .i64 (n : Int)) := by go_simp
    have z1 : (wB.setCell ⟨w1.heap.size, 1, none⟩ (.slice au cl ku)).cell? ⟨w1.heap.size, 1, none⟩ = some (.slice au cl ku) := by go_simp
    have z2 : (wB.setCell ⟨w1.heap.size, 1, none⟩ (.slice au cl ku)).cell? ⟨w1.heap.size, 2, none⟩ = some (.slice none 0 0) := by go_simp
    have g2 : (wB.setCell ⟨w1.heap.size, 1, none⟩ (.slice au cl ku)).frozen? ⟨w1.heap.size, 2, none⟩ = false := by rw [World.frozen?_setCell]; exact f2
    have hbY : Below W.heap.size W (wB.setCell ⟨w1.heap.size, 1, none⟩ (.slice au cl ku)) := (bt HBB.out HBXW.out).setCell (p := ⟨w1.heap.size, 1, none⟩) HB1.out.size _
    have hl1 : w1.heap.size < wB.heap.size := Nat.lt_of_lt_of_le HZX.out HBB.out.size
    have hu1 := seq_set HU1.out ⟨w1.heap.size, 1, none⟩ HLA.out (.slice au cl ku)
    have hsz : (wB.setCell ⟨w1.heap.size, 1, none⟩ (.slice au cl ku)).heap.size = wB.heap.size := by simp
    rw [← hsz] at hu1
    generalize wB.setCell ⟨w1.heap.size, 1, none⟩ (.slice au cl ku) = Y at *
    have HY := Lib.hid (And.intro (And.intro z0 (And.intro z1 z2)) g2)
    have HBY := Lib.hid hbY
    have HU1Y := Lib.hid hu1
    have HSZ := Lib.hid hsz
    have HL1 := Lib.hid hl1
    have HS6 := Lib.hid (show ∀ W', Below Y.heap.size Y W' → (W'.heap[w.heap.size]? = some (.cells #[.int .i64 c0, .int .i64 c1, .int .i64 c2, .int .i64 c3, .int .i64 c4, .int .i64 c5, .int .i64 c6, .int .i64 c7, .int .i64 c8, .int .i64 c9, .int .i64 c10, .int .i64 count, .int .i64 last, .int .i64 seq, .slice a1 n k1, .slice a2 n2 k2, .slice a3 n3 k3] 28 (0, 0)) ∧ W'.cell? ⟨w.heap.size, 3, none⟩ = some (.int .i64 c3)) by
      intro W' hb
      have h9 := HSB.out W' (bt hb HBY.out)
      exact ⟨h9, by rw [cell_of_row _ _ _ _ _ _ h9]; rfl⟩)
    clear z0 z1 z2 g2 hbY y0 y1 y2 f0 f1 f2 hu1 hsz hl1
    refine regionZ 10 (fun w' => w'.heap[w.heap.size]? = some (.cells #[.int .i64 c0, .int .i64 c1, .int .i64 c2, .int .i64 c3, .int .i64 c4, .int .i64 c5, .int .i64 c6, .int .i64 c7, .int .i64 c8, .int .i64 c9, .int .i64 c10, .int .i64 count, .int .i64 last, .int .i64 seq, .slice a1 n k1, .slice a2 n2 k2, .slice a3 n3 k3] 28 (0, 0)) ∧ w'.cell? ⟨w.heap.size, 3, none⟩ = some (.int .i64 c3)) (by kernel_rfl) (HS6.out _ (Below.refl _ Y).drew) (fun hH => ?_)
    refine takeZ 0 (v := .agg #[.int .i64 c0, .int .i64 c1, .int .i64 c2, .int .i64 c3, .int .i64 c4, .int .i64 c5, .int .i64 c6, .int .i64 c7, .int .i64 c8, .int .i64 c9, .int .i64 c10, .int .i64 count, .int .i64 last, .int .i64 seq, .slice a1 n k1, .slice a2 n2 k2, .slice a3 n3 k3]) (gi rfl) (by kernel_rfl) (fun _ _ _ h => h) hH (by exact yieldsIf_load_row rfl 28 (.tmp 1) rfl w.heap.size rfl 28 _ (0, 0) _ (fun _ h => h.1) Tryz.underlying28 rfl (by kernel_rfl)) ?_
    try simp only [Act.put, List.setIfInBounds_toArray, List.set_cons_zero, List.set_cons_succ]
    refine takeZ 2 (v := ?_) (gi rfl) (by kernel_rfl) (fun _ _ _ h => h) hH (.inl ⟨rfl, fun w hW => ?_⟩) ?_
    rotate_left
    · (go_simp; try with_reducible rfl)
    try simp only [Act.put, List.setIfInBounds_toArray, List.set_cons_zero, List.set_cons_succ]
    refine takeZ 3 (v := ?_) (gi rfl) (by kernel_rfl) (fun _ _ _ h => h) hH (.inl ⟨rfl, fun w hW => ?_⟩) ?_
    rotate_left
    · (go_simp; try with_reducible rfl)
    try simp only [Act.put, List.setIfInBounds_toArray, List.set_cons_zero, List.set_cons_succ]
    refine takeZ 4 (v := ?_) (gi rfl) (by kernel_rfl) (fun _ _ _ h => h) hH (.inl ⟨rfl, fun w hW => ?_⟩) ?_
    rotate_left
    · (obtain ⟨hW0, hW1⟩ := hW; go_simp; try with_reducible rfl)
    try simp only [Act.put, List.setIfInBounds_toArray, List.set_cons_zero, List.set_cons_succ]
    refine oneZ 1 (by kernel_rfl) (gi rfl) (fun K hK => ?_)
    try simp only [Act.put, List.setIfInBounds_toArray, List.set_cons_zero, List.set_cons_succ]
    go_simp
    refine (HSC.out Y.drew (bt (Below.refl _ Y).drew (bt HBY.out HB.out))).mono ?_
    rintro e wC ⟨⟨u, rfl, hu⟩, hbC⟩
    have HBC := Lib.hid (show Below Y.heap.size Y wC from bt hbC (Below.refl _ Y).drew)
    have HLC := Lib.hid (show w1.heap.size < wC.heap.size by have := HBC.out.size; have := HL1.out; have := HSZ.out; omega)
    have HSV := Lib.hid (hu.more (Nat.zero_le _) (Nat.le_refl _))
    obtain ⟨Au2, cu2, rfl, hcv1, hcv2, _⟩ := hu
    unfold maxLen at hcv2
    obtain ⟨sl, hsl⟩ : ∃ sl, (scoL win).length = sl := ⟨_, rfl⟩
    rw [hsl] at HSV hcv1 ⊢
    clear hbC hsl
    refine hK.out _ _ (fun _ => HS6.out _ HBC.out) (fun hH => ?_)
    replace hH := hH (by decide)
    clear hK K
    try simp only [Act.put, List.setIfInBounds_toArray, List.set_cons_zero, List.set_cons_succ]
    refine oneZ 5 (by kernel_rfl) (gi rfl) (fun K hK => ?_)
    try simp only [Act.put, List.setIfInBounds_toArray, List.set_cons_zero, List.set_cons_succ]
    go_simp
    refine (HLV.out _ wC HSV.out).mono ?_
    rintro e wD ⟨⟨u2, rfl, hu2⟩, hbD⟩
    obtain ⟨A3', k3', rfl, hk5, hk6, hr3, hn3⟩ := hu2
    have HU2 := Lib.hid (show Seq 1 inC wD wC.heap.size wD.heap.size (.slice A3' LL.length k3') LL from ⟨A3', k3', rfl, hk5, hk6, by simpa using hr3, hn3⟩)
    have HBD := Lib.hid (bt hbD HBC.out)
    clear hbD hk5 hk6 hr3 hn3
    refine hK.out _ _ (fun _ => HS6.out _ HBD.out) (fun hH => ?_)
    replace hH := hH (by decide)
    clear hK K
    try simp only [Act.put, List.setIfInBounds_toArray, List.set_cons_zero, List.set_cons_succ]
    refine takeZ 6 (v := ?_) (gi rfl) (by kernel_rfl) (fun _ _ _ h => h) hH (.inl ⟨rfl, fun w hW => ?_⟩) ?_
    rotate_left
    · (go_simp; try with_reducible rfl)
    try simp only [Act.put, List.setIfInBounds_toArray, List.set_cons_zero, List.set_cons_succ]
    refine takeZ 7 (v := ?_) (gi rfl) (by kernel_rfl) (fun _ _ _ h => h) hH (.inl ⟨rfl, fun w hW => ?_⟩) ?_
    rotate_left
    · (go_simp; try with_reducible rfl)
    try simp only [Act.put, List.setIfInBounds_toArray, List.set_cons_zero, List.set_cons_succ]
    refine takeZ 8 (v := ?_) (gi rfl) (by kernel_rfl) (fun _ _ _ h => h) hH (.inl ⟨rfl, fun w hW => ?_⟩) ?_
    rotate_left
    · (go_simp; try with_reducible rfl)
    try simp only [Act.put, List.setIfInBounds_toArray, List.set_cons_zero, List.set_cons_succ]
    refine takeZ 9 (v := ?_) (gi rfl) (by kernel_rfl) (fun _ _ _ h => h) hH (.inl ⟨rfl, fun w hW => ?_⟩) ?_
    rotate_left
    · (go_simp; try with_reducible rfl)
    try simp only [Act.put, List.setIfInBounds_toArray, List.set_cons_zero, List.set_cons_succ]
    refine yieldZ 10 (v := ?_) (by kernel_rfl) (gi rfl) hH (.inl ⟨rfl, fun w hW => ?_⟩) ?_
    rotate_left
    · (go_simp; try with_reducible rfl)
    try simp only [Act.put, List.setIfInBounds_toArray, List.set_cons_zero, List.set_cons_succ]
    refine doneZ (by kernel_rfl) ?_ _
    clear hH
    have hyz : w1.heap.size < Y.heap.size := by have := HL1.out; have := HSZ.out; omega
    have z0 := keepA HBD.out HY.out.1.1
    have z1 := keepA HBD.out HY.out.1.2.1
    have z2 := keepA HBD.out HY.out.1.2.2
    have g2 := (HBD.out.frozen (p := ⟨w1.heap.size, 2, none⟩) hyz).trans HY.out.2
    have HBDW := Lib.hid (bt HBD.out HBY.out)
    obtain ⟨⟨r0, r1, r2⟩, q0, q1, q2⟩ := HRB.out wD HBDW.out
    have hne2 : W0.heap.size ≠ w1.heap.size := by have := HZ.out; omega
    have HU1' := Lib.hid (show Seq 6 colC wD wA.heap.size wD.heap.size (.slice au cl ku) CL from HU1Y.out.up HBD.out)
    obtain ⟨ll, hll⟩ : ∃ ll, LL.length = ll := ⟨_, rfl⟩
    rw [hll] at HU2 ⊢
    clear hcl hll
    go_wp2
    refine bodyPost_ret (v := .tuple #[.agg #[.int .i64 (n : Int), .slice au cl ku, .slice A3' ll k3'], .int .i64 0]) (by simp [results, Tryz.results7, go_sem, *]) rfl ?_
    have HWz := HZ.out
    have HLz := HLA.out
    have HLz2 := HLC.out
    refine ⟨⟨.slice au cl ku, .slice A3' ll k3', ?_, ?_, ?_⟩, HST.out _ _ _ _ l2 (HST.out _ _ _ _ l2 (HST.out _ _ _ _ l2 (HST.out _ _ _ _ (by omega) (HB.out.trans (HBDW.out.mono HB.out.size)))))⟩
    · rw [HRP.out]
      dsimp only
      rw [HN.out]
    · rw [HRP.out]
      have h9 := seq_set (seq_set (seq_set (seq_set HU1'.out ⟨w1.heap.size, 2, none⟩ HLz (.slice A3' ll k3')) ⟨W0.heap.size, 0, none⟩ (by show W0.heap.size < _; omega) (.int .i64 (n : Int))) ⟨W0.heap.size, 1, none⟩ (by show W0.heap.size < _; omega) (.slice au cl ku)) ⟨W0.heap.size, 2, none⟩ (by show W0.heap.size < _; omega) (.slice A3' ll k3')
      exact h9.more (Nat.zero_le _) (by simp)
    · rw [HRP.out]
      have h9 := seq_set (seq_set (seq_set (seq_set HU2.out ⟨w1.heap.size, 2, none⟩ HLz2 (.slice A3' ll k3')) ⟨W0.heap.size, 0, none⟩ (by show W0.heap.size < _; omega) (.int .i64 (n : Int))) ⟨W0.heap.size, 1, none⟩ (by show W0.heap.size < _; omega) (.slice au cl ku)) ⟨W0.heap.size, 2, none⟩ (by show W0.heap.size < _; omega) (.slice A3' ll k3')
      exact h9.more (Nat.zero_le _) (by simp)
end Go.Proofs.YtcaeihfgdlffkaaGreatRRRRDoor.RofW
