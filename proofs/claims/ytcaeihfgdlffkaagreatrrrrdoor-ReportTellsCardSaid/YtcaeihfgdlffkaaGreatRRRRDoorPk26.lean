/- A state's forest: right? after the document, walked (copseref28.forest; printed by mkrfr.py). -/
import Derived.Test.YtcaeihfgdlffkaaGreatRRRRDoorPk25
import Derived.Test.YtcaeihfgdlffkaaGreatRRRRDoorPk22
import Derived.Test.YtcaeihfgdlffkaaGreatRRRRDoorPk19
import Derived.Test.YtcaeihfgdlffkaaGreatRRRRDoorPk23
import Derived.BigFrame
namespace Go.Proofs.YtcaeihfgdlffkaaGreatRRRRDoor.RfrW
set_option linter.unusedVariables false
set_option linter.unusedSimpArgs false
open Go.RowKit Base SeqM CfM RptC ScoX ShpM ShpT StM StV RfoW RsbW

def TRel (l : List (Gr × Int)) (f : Gr × Int → Bool) (w : World) (i : Value) (wr : World) : Prop := ∃ k : Nat, k ≤ l.length ∧ i = .int .i64 k ∧ (l.take k).all f = true ∧ Below w.heap.size w wr
theorem root_of {d : Int} {g : Gr} (h : grownB d g = true) : ∃ x, g.nodes[0]? = some x := by
  unfold grownB at h
  rw [Bool.and_eq_true] at h
  obtain ⟨_, _, b, hat, hct, _⟩ := isTB_true.1 h.2
  have := count_pos b
  exact ⟨_, List.getElem?_eq_getElem (show 0 < g.nodes.length by omega)⟩
set_option maxHeartbeats 4000000 in
set_option maxRecDepth 100000 in
theorem Rforest_any (s : St) (wv fv av : Value) (w : World) (h : Grs w 0 w.heap.size fv s.forest) (hsm : ∀ g ∈ s.forest, g.nodes.length ≤ 1000000) (hv : (∃ a n c, wv = .slice a n c) ∧ ∃ a n c, av = .slice a n c) (hc : confOk s.cf) (hn : cnt s.count) :
    Calls Tryz.prog 44 #[.agg (stC s wv fv av).toArray] w fun e w' => e = .returned (.bool (treesB s)) ∧ Below w.heap.size w w' := by
  have HS := Lib.hid h
  have HBI := Lib.hid (fun W => RBirths_any s.cf s.count hc hn W)
  obtain ⟨A, cap, rfl, hc1, hc2, _⟩ := h.form
  obtain ⟨⟨a1, n1, c1', rfl⟩, a2, n2, c2', rfl⟩ := hv
  have HFI := Lib.hid (fun W (hw : Below w.heap.size w W) => RFIs_any _ s.forest W (HS.out.up hw) hsm)
  have HTB := Lib.hid (show treesB s = (decide (s.forest.length = (birthsL s.cf s.count).length) && forestB s.forest && ((s.forest.zip (birthsL s.cf s.count)).all fun x => treeB s.cf x.2 x.1)) from rfl)
  obtain ⟨⟨c0, c1, c2, c3, c4, c5, c6, c7, c8, c9, c10⟩, count, last, seq, win, forest, alerts⟩ := s
  unfold stC
  unfold CfM.cfC at HBI ⊢
  dsimp only [List.cons_append, List.nil_append] at HS HBI HFI HTB hc1 ⊢
  generalize treesB ⟨⟨c0, c1, c2, c3, c4, c5, c6, c7, c8, c9, c10⟩, count, last, seq, win, forest, alerts⟩ = R at *
  generalize birthsL ⟨c0, c1, c2, c3, c4, c5, c6, c7, c8, c9, c10⟩ count = BL at *
  obtain ⟨n, hn'⟩ : ∃ n, forest.length = n := ⟨_, rfl⟩
  have HN := Lib.hid hn'
  rw [hn'] at HS HFI hc1 ⊢
  clear h hn' hc hn hsm
  obtain ⟨W, eW⟩ : ∃ W, w.alloc (.cells #[.int .i64 c0, .int .i64 c1, .int .i64 c2, .int .i64 c3, .int .i64 c4, .int .i64 c5, .int .i64 c6, .int .i64 c7, .int .i64 c8, .int .i64 c9, .int .i64 c10, .int .i64 count, .int .i64 last, .int .i64 seq, .slice a1 n1 c1', .slice A n cap, .slice a2 n2 c2'] 28) = W := ⟨_, rfl⟩
  have HB := Lib.hid (show Below w.heap.size w W by rw [← eW]; exact below_a1 _ _)
  have HF := Lib.hid (show ∀ W' : World, Below W.heap.size W W' → (W'.cell? ⟨w.heap.size, 0, none⟩ = some (.int .i64 c0) ∧ W'.cell? ⟨w.heap.size, 3, none⟩ = some (.int .i64 c3) ∧ W'.cell? ⟨w.heap.size, 15, none⟩ = some (.slice A n cap)) by
    intro W' hb
    subst eW
    refine ⟨keepA hb ?_, keepA hb ?_, keepA hb ?_⟩ <;> go_simp)
  have HCS := Lib.hid (show W.cell? ⟨w.heap.size, 11, none⟩ = some (.int .i64 count) ∧ W.cell? ⟨w.heap.size, 0, none⟩ = some (.int .i64 c0) ∧ W.cell? ⟨w.heap.size, 1, none⟩ = some (.int .i64 c1) ∧ W.cell? ⟨w.heap.size, 2, none⟩ = some (.int .i64 c2) ∧ W.cell? ⟨w.heap.size, 3, none⟩ = some (.int .i64 c3) ∧ W.cell? ⟨w.heap.size, 4, none⟩ = some (.int .i64 c4) ∧ W.cell? ⟨w.heap.size, 5, none⟩ = some (.int .i64 c5) ∧ W.cell? ⟨w.heap.size, 6, none⟩ = some (.int .i64 c6) ∧ W.cell? ⟨w.heap.size, 7, none⟩ = some (.int .i64 c7) ∧ W.cell? ⟨w.heap.size, 8, none⟩ = some (.int .i64 c8) ∧ W.cell? ⟨w.heap.size, 9, none⟩ = some (.int .i64 c9) ∧ W.cell? ⟨w.heap.size, 10, none⟩ = some (.int .i64 c10) by
    subst eW
    refine ⟨?_, ?_, ?_, ?_, ?_, ?_, ?_, ?_, ?_, ?_, ?_, ?_⟩ <;> go_simp)
  obtain ⟨d11, d0, d1, d2, d3, d4, d5, d6, d7, d8, d9, d10⟩ := HCS.out
  obtain ⟨-, -, f15⟩ := HF.out W (Below.refl _ _)
  go_enter Tryz.func44, Tryz.ntmps44
  go_wp2_with fail
  refine (HBI.out _).mono ?_
  rintro e w1 ⟨⟨bv, rfl, hbv⟩, hb1⟩
  have HB1 := Lib.hid hb1
  obtain ⟨A3, k3, rfl, hk1, hk2, hr3, _⟩ := hbv
  unfold maxLen at hk2
  have HR3 := Lib.hid hr3
  obtain ⟨m, hm⟩ : ∃ m, BL.length = m := ⟨_, rfl⟩
  have HM := Lib.hid hm
  rw [hm] at hk1 ⊢
  obtain ⟨-, -, f15'⟩ := HF.out w1 hb1
  have HWW := Lib.hid (show Below w.heap.size w w1 from bt hb1 HB.out)
  clear d11 f15 d0 d1 d2 d3 d4 d5 d6 d7 d8 d9 d10 hb1 hr3 hm
  go_wp2_with fail
  refine (HFI.out _ HWW.out).mono ?_
  rintro e w2 ⟨rfl, hb2⟩
  have HB2 := Lib.hid (show Below W.heap.size W w2 from bt hb2 HB1.out)
  have HB12 := Lib.hid hb2
  obtain ⟨-, -, f15''⟩ := HF.out w2 HB2.out
  cases hfb : forestB forest
  · have F := Lib.hid (show R = false by rw [HTB.out, hfb]; simp)
    clear hfb hb2
    go_wp2_with fail
    go_ret
    exact ⟨by rw [F.out]; rfl, bt HB2.out HB.out⟩
  · have HFB := Lib.hid hfb
    clear hb2
    by_cases hnm : n = m
    · subst hnm
      have HRT := Lib.hid (show R = ((forest.zip BL).all fun x => treeB ⟨c0, c1, c2, c3, c4, c5, c6, c7, c8, c9, c10⟩ x.2 x.1) by rw [HTB.out, hfb, HN.out, HM.out, decide_eq_true rfl]; rfl)
      have HZL := Lib.hid (show (forest.zip BL).length = n by rw [List.length_zip, HN.out, HM.out]; omega)
      clear hfb
      go_wp2_with fail
      go_loopw [5] (fun i wr => TRel (forest.zip BL) (fun x => treeB ⟨c0, c1, c2, c3, c4, c5, c6, c7, c8, c9, c10⟩ x.2 x.1) w2 i wr) (fun i _ => n - (intOf i).toNat)
      case atStart => exact ⟨0, Nat.zero_le _, rfl, rfl, Below.refl _ _⟩
      case round =>
        obtain ⟨k, hk, rfl, ht, hbr⟩ := hrel
        rw [HZL.out] at hk
        have HT := Lib.hid ht
        have HBR := Lib.hid hbr
        have HBW := Lib.hid (show Below W.heap.size W wr from bt hbr HB2.out)
        clear ht
        by_cases hlt : k < n
        · obtain ⟨g, hg⟩ : ∃ x, forest[k]? = some x := ⟨_, List.getElem?_eq_getElem (by rw [HN.out]; exact hlt)⟩
          obtain ⟨ad, xv, rfl, hbk, hcs, hnd⟩ := (HS.out.up (bt HBW.out HB.out)).get hg
          obtain ⟨be, b, rfl, _, hbb, hbx, hbc⟩ := rdI HR3.out (i := k) (by rw [HM.out]; omega)
          have HX := Lib.hid (all_next (show (forest.zip BL)[k]? = some (g, b) by rw [List.getElem?_zip_eq_some]; exact ⟨hg, hbx⟩) (fun x : Gr × Int => treeB ⟨c0, c1, c2, c3, c4, c5, c6, c7, c8, c9, c10⟩ x.2 x.1))
          have hgb : grownB ((forest[0]?.map (·.dim)).getD 0) g = true := by
            have h9 := HFB.out
            unfold forestB at h9
            rw [Bool.and_eq_true] at h9
            exact (List.all_eq_true.1 h9.2) g (List.mem_of_getElem? hg)
          obtain ⟨x, hx0⟩ := root_of hgb
          obtain ⟨NA, nc, hxf, hn1, hn2, _⟩ := hnd.form
          subst hxf
          obtain ⟨an, cv, e1, hbn, _, _, _, _, s4, _⟩ := hnd.get hx0
          have HTR := Lib.hid (show treeB ⟨c0, c1, c2, c3, c4, c5, c6, c7, c8, c9, c10⟩ b g = (decide (g.born = b) && decide (g.dim = c0) && decide (x.size = c3)) by unfold treeB; rw [hx0]; rfl)
          have hnl : 0 < g.nodes.length := (List.getElem?_eq_some_iff.1 hx0).1
          subst e1
          obtain ⟨dim, nodes, born⟩ := g
          obtain ⟨q0, q3, q15⟩ := HF.out wr HBW.out
          have t0 : wr.cell? (ad.add (k * 3)) = some (.int .i64 dim) := hcs 0 _ rfl
          have t1 : wr.cell? ⟨(ad.add (k * 3)).block, (ad.add (k * 3)).off + 1, none⟩ = some (.slice (some an) nodes.length nc) := by rw [add_off _ _ _ (by decide)]; exact hcs 1 _ rfl
          have t2 : wr.cell? ⟨(ad.add (k * 3)).block, (ad.add (k * 3)).off + 2, none⟩ = some (.int .i64 born) := by rw [add_off _ _ _ (by decide)]; exact hcs 2 _ rfl
          have u0 : wr.cell? (be.add k) = some (.int .i64 b) := ((bt hbr HB12.out).cell (by rw [Base.add_block]; exact hbb)).trans hbc
          have hadd : an.add (0 * 5) = an := by unfold Addr.add; simp
          rw [hadd] at s4
          dsimp only at HX HTR hnl hn1 t1
          obtain ⟨nl, hnl'⟩ : ∃ nl, nodes.length = nl := ⟨_, rfl⟩
          rw [hnl'] at hnl hn1 t1
          have hzb : be.block < wr.heap.size := Nat.lt_of_lt_of_le hbb (bt hbr HB12.out).size
          have hzw : w.heap.size < wr.heap.size := World.block_lt_of_cell? _ _ q0
          have hzn : an.block < wr.heap.size := hbn
          have hza : (ad.add (k * 3)).block < wr.heap.size := World.block_lt_of_cell? _ _ t0
          have h05 : (0 : Nat) * 5 = 0 := rfl
          clear hcs hnd hg hbx hbc hgb hx0 hbr hnl' hadd
          obtain ⟨X, eX⟩ : ∃ X, wr.alloc (.cells #[.int .i64 dim, .slice (some an) nl nc] 105) = X := ⟨_, rfl⟩
          have HBX := Lib.hid (show Below wr.heap.size wr X by rw [← eX]; exact below_a1 _ _)
          have x0 : X.cell? ⟨wr.heap.size, 0, none⟩ = some (.int .i64 dim) := by rw [← eX]; clear eX; go_simp
          have x1 : X.cell? ⟨wr.heap.size, 1, none⟩ = some (.slice (some an) nl nc) := by rw [← eX]; clear eX; go_simp
          have v0 := keepA HBX.out u0
          have v2 := keepA HBX.out t2
          have r0 := keepA HBX.out q0
          have r3 := keepA HBX.out q3
          have r15 := keepA HBX.out q15
          have y4 := keepA HBX.out s4
          have HWX := Lib.hid (show Below w2.heap.size w2 X from bt HBX.out HBR.out)
          have HNO := Lib.hid (fun (h : treeB ⟨c0, c1, c2, c3, c4, c5, c6, c7, c8, c9, c10⟩ b ⟨dim, nodes, born⟩ = false) => show R = false by rw [HRT.out]; exact all_no (k := k + 1) (by rw [HX.out, h]; simp))
          by_cases p1 : born = b
          · by_cases p2 : dim = c0
            · by_cases p3 : x.size = c3
              · have F := Lib.hid (show ((forest.zip BL).take (k + 1)).all (fun x => treeB ⟨c0, c1, c2, c3, c4, c5, c6, c7, c8, c9, c10⟩ x.2 x.1) = true by rw [HX.out, HT.out, HTR.out, decide_eq_true p1, decide_eq_true p2, decide_eq_true p3]; rfl)
                subst p1 p2
                rw [p3] at y4
                clear p3
                go_wp2_with fail
                go_quiet (fail)
                go_wp2_with fail
                exact ⟨⟨k + 1, by rw [HZL.out]; omega, by go_num, F.out, below_drewN HWX.out nq⟩, by simp [intOf]; omega⟩
              · have F := Lib.hid (HNO.out (by rw [HTR.out, decide_eq_false p3]; simp))
                have p3b : (x.size != c3) = true := by rw [bne_iff_ne]; exact p3
                subst p1 p2
                go_wp2_with fail
                go_quiet (fail)
                go_wp2_with fail
                go_ret
                exact ⟨by rw [F.out]; rfl, bt (below_drewN HWX.out nq) (bt HB2.out HB.out)⟩
            · have F := Lib.hid (HNO.out (by rw [HTR.out, decide_eq_false p2]; simp))
              have p2b : (dim != c0) = true := by rw [bne_iff_ne]; exact p2
              subst p1
              go_wp2_with fail
              go_quiet (fail)
              go_wp2_with fail
              go_ret
              exact ⟨by rw [F.out]; rfl, bt (below_drewN HWX.out nq) (bt HB2.out HB.out)⟩
          · have F := Lib.hid (HNO.out (by rw [HTR.out, decide_eq_false p1]; simp))
            have p1b : (born != b) = true := by rw [bne_iff_ne]; exact p1
            go_wp2_with fail
            go_quiet (fail)
            go_wp2_with fail
            go_ret
            exact ⟨by rw [F.out]; rfl, bt (below_drewN HWX.out nq) (bt HB2.out HB.out)⟩
        · have F := Lib.hid (show R = true by
            have := HT.out
            rw [List.take_of_length_le (by rw [HZL.out]; omega)] at this
            rw [HRT.out, this])
          go_wp2_with fail
          go_ret
          exact ⟨by rw [F.out]; rfl, bt HBW.out HB.out⟩
    · have F := Lib.hid (show R = false by rw [HTB.out, HN.out, HM.out, decide_eq_false hnm]; rfl)
      have hnb : ((n : Int) != (m : Int)) = true := by rw [bne_iff_ne]; omega
      clear hnm hfb
      go_wp2_with fail
      go_ret
      exact ⟨by rw [F.out]; rfl, bt HB2.out HB.out⟩
end Go.Proofs.YtcaeihfgdlffkaaGreatRRRRDoor.RfrW

/- An alert, a state's alerts after the document: right? walked (copseref22.RightAlert, copseref28.alerts). -/
namespace Go.Proofs.YtcaeihfgdlffkaaGreatRRRRDoor.RseW
set_option linter.unusedVariables false
set_option linter.unusedSimpArgs false
open Go.RowKit Base SeqM CfM RptC ScoX ShpM ShpT StM StV OdrX
open AltW (als_step)

set_option maxHeartbeats 2000000 in
set_option maxRecDepth 100000 in
theorem RRightAlert_any (a : Al) (w : World) (hi : AlI a) :
    Calls Tryz.prog 79 #[.agg (alC a).toArray] w fun e w' => e = .returned (.bool (alB a)) ∧ Below w.heap.size w w' := by
  have HI := Lib.hid hi
  have HS := Lib.hid (show alB a = (decide (1 ≤ a.seq ∧ a.seq ≤ 1099511627776 ∧ 1 ≤ a.id ∧ a.id ≤ 1099511627776) && (isS a.p a.q && isS a.lp a.lq) && decide (0 ≤ odV a.p a.q a.lp a.lq)) from rfl)
  obtain ⟨sq, id, p, q, lp, lq⟩ := a
  have HO := Lib.hid (fun W h1 h2 => Odder_any p q lp lq W h1 h2)
  have HI1 := Lib.hid (fun W => RSIs_any p q W hi.2.2.1)
  have HI2 := Lib.hid (fun W => RSIs_any lp lq W hi.2.2.2)
  unfold alC
  dsimp only at HS ⊢
  generalize alB ⟨sq, id, p, q, lp, lq⟩ = R at *
  clear hi
  by_cases h1 : sq < 1
  · have F := Lib.hid (show R = false by rw [HS.out, decide_eq_false (by omega)]; rfl)
    go_enter Tryz.func79, Tryz.ntmps79
    go_wp2_with fail
    go_ret
    exact ⟨by rw [F.out]; rfl, below_a1 _ _⟩
  by_cases h2 : 1099511627776 < sq
  · have F := Lib.hid (show R = false by rw [HS.out, decide_eq_false (by omega)]; rfl)
    go_enter Tryz.func79, Tryz.ntmps79
    go_wp2_with fail
    go_ret
    exact ⟨by rw [F.out]; rfl, below_a1 _ _⟩
  by_cases h3 : id < 1
  · have F := Lib.hid (show R = false by rw [HS.out, decide_eq_false (by omega)]; rfl)
    go_enter Tryz.func79, Tryz.ntmps79
    go_wp2_with fail
    go_ret
    exact ⟨by rw [F.out]; rfl, below_a1 _ _⟩
  by_cases h4 : 1099511627776 < id
  · have F := Lib.hid (show R = false by rw [HS.out, decide_eq_false (by omega)]; rfl)
    go_enter Tryz.func79, Tryz.ntmps79
    go_wp2_with fail
    go_ret
    exact ⟨by rw [F.out]; rfl, below_a1 _ _⟩
  have HR := Lib.hid (show R = ((isS p q && isS lp lq) && decide (0 ≤ odV p q lp lq)) by rw [HS.out, decide_eq_true (by omega)]; simp)
  go_enter Tryz.func79, Tryz.ntmps79
  go_wp2_with fail
  refine (HI1.out _).mono ?_
  rintro e w1 ⟨rfl, hb1⟩
  have HB1 := Lib.hid (bt hb1 (below_a1 w _))
  have d2 : w1.cell? ⟨w.heap.size, 2, none⟩ = some (.int .i64 p) := keepA hb1 (by go_simp)
  have d3 : w1.cell? ⟨w.heap.size, 3, none⟩ = some (.int .i64 q) := keepA hb1 (by go_simp)
  have d4 : w1.cell? ⟨w.heap.size, 4, none⟩ = some (.int .i64 lp) := keepA hb1 (by go_simp)
  have d5 : w1.cell? ⟨w.heap.size, 5, none⟩ = some (.int .i64 lq) := keepA hb1 (by go_simp)
  clear hb1
  cases hs1 : isS p q
  · have F := Lib.hid (show R = false by rw [HR.out, hs1]; rfl)
    clear hs1
    go_wp2_with fail
    go_ret
    exact ⟨by rw [F.out]; rfl, HB1.out⟩
  · have HS1 := Lib.hid hs1
    clear hs1
    go_wp2_with fail
    refine (HI2.out _).mono ?_
    rintro e w2 ⟨rfl, hb2⟩
    have HB2 := Lib.hid (bt hb2 HB1.out)
    have f2 := keepA hb2 d2
    have f3 := keepA hb2 d3
    have f4 := keepA hb2 d4
    have f5 := keepA hb2 d5
    clear hb2 d2 d3 d4 d5
    cases hs2 : isS lp lq
    · have F := Lib.hid (show R = false by rw [HR.out, HS1.out, hs2]; rfl)
      clear hs2
      go_wp2_with fail
      go_ret
      exact ⟨by rw [F.out]; rfl, HB2.out⟩
    · have HRO := Lib.hid (show R = decide (0 ≤ odV p q lp lq) by rw [HR.out, HS1.out, hs2]; rfl)
      have HS2 := Lib.hid hs2
      clear hs2
      go_wp2_with fail
      refine (HO.out _ HS1.out HS2.out).mono ?_
      rintro e w3 ⟨rfl, hb3⟩
      have HB3 := Lib.hid (bt hb3 HB2.out)
      clear hb3 f2 f3 f4 f5
      generalize odV p q lp lq = O at *
      go_wp2_with fail
      go_ret
      exact ⟨by rw [HRO.out]; rfl, HB3.out⟩
def ARel2 (L : Int) (R : Bool) (l : List Al) (n0 : Int) (w : World) (last i : Value) (wr : World) : Prop := ∃ (k : Nat) (a : Int), k ≤ l.length ∧ i = .int .i64 k ∧ last = .int .i64 a ∧
  R = alsB L a (n0 + k) (l.drop k) ∧ Below w.heap.size w wr
set_option maxHeartbeats 4000000 in
set_option maxRecDepth 100000 in
theorem Ralerts_any (s : St) (wv fv av : Value) (w : World) (h : Seq 6 alC w 0 w.heap.size av s.alerts) (hi : ∀ x ∈ s.alerts, AlI x) (hv : (∃ a n c, wv = .slice a n c) ∧ ∃ a n c, fv = .slice a n c) (hc : 1 ≤ s.cf.c9 ∧ s.cf.c9 ≤ 64) (hn : cnt s.count) (hq : I64 s.seq) :
    Calls Tryz.prog 45 #[.agg (stC s wv fv av).toArray] w fun e w' => e = .returned (.bool (alertsB s)) ∧ Below w.heap.size w w' := by
  have HI := Lib.hid hi
  obtain ⟨A, cap, rfl, hc1, hc2, hr, _⟩ := h
  unfold maxLen at hc2
  have HS := Lib.hid hr
  obtain ⟨⟨a1, n1, c1', rfl⟩, a2, n2, c2', rfl⟩ := hv
  obtain ⟨⟨c0, c1, c2, c3, c4, c5, c6, c7, c8, c9, c10⟩, count, last, seq, win, forest, alerts⟩ := s
  unfold stC CfM.cfC alertsB
  unfold cnt at hn
  unfold I64 at hq
  dsimp only [List.cons_append, List.nil_append] at HS HI hc hn hq hc1 ⊢
  obtain ⟨n, hn'⟩ : ∃ n, alerts.length = n := ⟨_, rfl⟩
  have HN := Lib.hid hn'
  rw [hn'] at hc1 ⊢
  clear hr hi hn'
  obtain ⟨W, eW⟩ : ∃ W, w.alloc (.cells #[.int .i64 c0, .int .i64 c1, .int .i64 c2, .int .i64 c3, .int .i64 c4, .int .i64 c5, .int .i64 c6, .int .i64 c7, .int .i64 c8, .int .i64 c9, .int .i64 c10, .int .i64 count, .int .i64 last, .int .i64 seq, .slice a1 n1 c1', .slice a2 n2 c2', .slice A n cap] 28) = W := ⟨_, rfl⟩
  have HB := Lib.hid (show Below w.heap.size w W by rw [← eW]; exact below_a1 _ _)
  have HCS := Lib.hid (show ∀ W' : World, Below W.heap.size W W' → (W'.cell? ⟨w.heap.size, 9, none⟩ = some (.int .i64 c9) ∧ W'.cell? ⟨w.heap.size, 11, none⟩ = some (.int .i64 count) ∧ W'.cell? ⟨w.heap.size, 12, none⟩ = some (.int .i64 last) ∧ W'.cell? ⟨w.heap.size, 13, none⟩ = some (.int .i64 seq) ∧ W'.cell? ⟨w.heap.size, 16, none⟩ = some (.slice A n cap)) by
    intro W' hb
    subst eW
    refine ⟨keepA hb ?_, keepA hb ?_, keepA hb ?_, keepA hb ?_, keepA hb ?_⟩ <;> go_simp)
  obtain ⟨d9, d11, d12, d13, d16⟩ := HCS.out W (Below.refl _ _)
  by_cases q1 : seq < 0
  · rw [decide_eq_false (show ¬ (0 ≤ seq ∧ seq ≤ count ∧ (n : Int) ≤ min seq c9) by omega), Bool.false_and]
    go_enter Tryz.func45, Tryz.ntmps45
    go_wp2_with fail
    go_ret
    exact ⟨rfl, HB.out⟩
  by_cases q2 : count < seq
  · rw [decide_eq_false (show ¬ (0 ≤ seq ∧ seq ≤ count ∧ (n : Int) ≤ min seq c9) by omega), Bool.false_and]
    go_enter Tryz.func45, Tryz.ntmps45
    go_wp2_with fail
    go_ret
    exact ⟨rfl, HB.out⟩
  by_cases q3 : c9 < (n : Int)
  · rw [decide_eq_false (show ¬ (0 ≤ seq ∧ seq ≤ count ∧ (n : Int) ≤ min seq c9) by omega), Bool.false_and]
    go_enter Tryz.func45, Tryz.ntmps45
    go_wp2_with fail
    go_ret
    exact ⟨rfl, HB.out⟩
  by_cases q4 : seq < (n : Int)
  · rw [decide_eq_false (show ¬ (0 ≤ seq ∧ seq ≤ count ∧ (n : Int) ≤ min seq c9) by omega), Bool.false_and]
    go_enter Tryz.func45, Tryz.ntmps45
    go_wp2_with fail
    go_ret
    exact ⟨rfl, HB.out⟩
  have HF := Lib.hid (show (decide (0 ≤ seq ∧ seq ≤ count ∧ (n : Int) ≤ min seq c9) && alsB last 0 (seq - (n : Int)) alerts) = alsB last 0 (seq - (n : Int)) alerts by rw [decide_eq_true (by omega), Bool.true_and])
  rw [HF.out]
  obtain ⟨M, hM⟩ : ∃ M, seq - (n : Int) = M := ⟨_, rfl⟩
  have HMM := Lib.hid hM
  obtain ⟨R, hR⟩ : ∃ R, alsB last 0 M alerts = R := ⟨_, rfl⟩
  have HR := Lib.hid hR
  rw [hM, hR]
  have hM0 : 0 ≤ M ∧ M ≤ 1099511627776 := by omega
  have hn64 : n ≤ 64 := by omega
  clear hR HF hM
  go_enter Tryz.func45, Tryz.ntmps45
  go_wp2_with fail
  go_loopw [4, 5] (fun l i wr => ARel2 last R alerts M W l i wr) (fun _ i _ => n - (intOf i).toNat)
  case atStart => exact ⟨0, 0, Nat.zero_le _, rfl, rfl, by simpa using HR.out.symm, Below.refl _ W⟩
  case round =>
    obtain ⟨k, a, hk, rfl, rfl, hR, hbr⟩ := hrel
    rw [HN.out] at hk
    have HBR := Lib.hid hbr
    have HRR := Lib.hid hR
    clear hR
    obtain ⟨e9, e11, e12, e13, e16⟩ := HCS.out wr hbr
    clear d9 d11 d12 d13 d16
    by_cases hlt : k < n
    · obtain ⟨ad, x, rfl, _, hbk, hx, hcs⟩ := rdk alC_len HS.out (i := k) (by rw [HN.out]; exact hlt)
      have HST := Lib.hid (HRR.out.trans (als_step hx))
      have HRS := Lib.hid (fun W' => RRightAlert_any x W' (HI.out x (List.mem_of_getElem? hx)))
      obtain ⟨sq, id, p, q, lp, lq⟩ := x
      have hbw := bt hbr HB.out
      have g0 : wr.cell? (ad.add (k * 6)) = some (.int .i64 sq) := (hbw.cell (by rw [Base.add_block]; exact hbk)).trans (hcs 0 _ rfl)
      have gf : ∀ j u, (alC ⟨sq, id, p, q, lp, lq⟩)[j]? = some u → j ≠ 0 → wr.cell? ⟨(ad.add (k * 6)).block, (ad.add (k * 6)).off + j, none⟩ = some u := fun j u hu hj => by rw [add_off _ _ _ hj]; exact (hbw.cell (by rw [Base.add_block]; exact hbk)).trans (hcs j u hu)
      have g1 := gf 1 _ rfl (by decide)
      have g2 := gf 2 _ rfl (by decide)
      have g3 := gf 3 _ rfl (by decide)
      have g4 := gf 4 _ rfl (by decide)
      have g5 := gf 5 _ rfl (by decide)
      unfold alC at HRS
      dsimp only at g1 g2 g3 g4 g5 HST HRS
      generalize alB ⟨sq, id, p, q, lp, lq⟩ = AB at *
      obtain ⟨N1, hN1⟩ : ∃ N1, M + 1 + (k : Int) = N1 := ⟨_, rfl⟩
      have HK1 := Lib.hid (show M + (k : Int) + 1 = N1 by omega)
      have HK2 := Lib.hid (show M + ((k + 1 : Nat) : Int) = N1 by omega)
      rw [HK1.out] at HST
      have hM2 : seq - (n : Int) = M := HMM.out
      have hwN : IntKind.i64.wrap (M + 1 + (k : Int)) = N1 := by rw [hN1]; exact IntWalk.i64_in _ (by omega)
      have hwN1 : IntKind.i64.wrap (M + 1) = M + 1 := IntWalk.i64_in _ (by omega)
      have hwN2 : IntKind.i64.wrap M = M := IntWalk.i64_in _ (by omega)
      have hN1b : 0 ≤ N1 ∧ N1 ≤ 1099511628000 := by omega
      have hzs : w.heap.size < wr.heap.size := World.block_lt_of_cell? _ _ e9
      have hk4 : k + 1 ≤ 65 := by omega
      clear gf hcs hx hbr hbw hc hn hq q1 q2 q3 q4 eW e9 e11 hc1 hc2 hbk hN1
      go_wp2_with fail
      refine (HRS.out _).mono ?_
      rintro e w5 ⟨rfl, hb5⟩
      have b0 : w5.cell? ⟨wr.heap.size, 0, none⟩ = some (.int .i64 sq) := keepA hb5 (by go_simp)
      have b1 : w5.cell? ⟨wr.heap.size, 1, none⟩ = some (.int .i64 id) := keepA hb5 (by go_simp)
      have HB5 := Lib.hid (bt hb5 (below_a1 wr _))
      have HB6 := Lib.hid (show Below W.heap.size W w5 from HBR.out.trans (HB5.out.mono HBR.out.size))
      obtain ⟨-, -, e12', e13', -⟩ := HCS.out w5 HB6.out
      clear hb5 g0 g1 g2 g3 g4 g5 e12 e13 e16
      cases AB
      · have F := Lib.hid (show R = false by rw [HST.out]; simp)
        go_wp2_with fail
        go_ret
        exact ⟨by rw [F.out]; rfl, bt HB6.out HB.out⟩
      · by_cases h0 : sq = N1
        · by_cases h1 : a < id
          · by_cases h2 : id ≤ last
            · have F := Lib.hid (show R = alsB last id N1 (alerts.drop (k + 1)) by rw [HST.out, decide_eq_true h0, decide_eq_true h1, decide_eq_true h2]; simp)
              have h0b : (sq != N1) = false := by simpa using h0
              clear h0
              go_wp2_with fail
              exact ⟨⟨k + 1, id, by rw [HN.out]; omega, by go_num, rfl, by rw [HK2.out]; exact F.out, HB6.out⟩, by simp [intOf]; omega⟩
            · have F := Lib.hid (show R = false by rw [HST.out]; rw [decide_eq_false h2]; simp)
              have h0b : (sq != N1) = false := by simpa using h0
              clear h0
              go_wp2_with fail
              go_ret
              exact ⟨by rw [F.out]; rfl, bt HB6.out HB.out⟩
          · have F := Lib.hid (show R = false by rw [HST.out]; rw [decide_eq_false h1]; simp)
            have h0b : (sq != N1) = false := by simpa using h0
            clear h0
            go_wp2_with fail
            go_ret
            exact ⟨by rw [F.out]; rfl, bt HB6.out HB.out⟩
        · have h0b : (sq != N1) = true := by simpa using h0
          have F := Lib.hid (show R = false by rw [HST.out]; rw [decide_eq_false h0]; simp)
          clear h0
          go_wp2_with fail
          go_ret
          exact ⟨by rw [F.out]; rfl, bt HB6.out HB.out⟩
    · have hkn : k = n := by omega
      have F := Lib.hid (show R = true by rw [HRR.out, List.drop_eq_nil_of_le (by rw [HN.out]; omega), alsB])
      clear hbr
      go_wp2_with fail
      go_ret
      exact ⟨by rw [F.out]; rfl, bt HBR.out HB.out⟩
end Go.Proofs.YtcaeihfgdlffkaaGreatRRRRDoor.RseW

/- Is a state right? after the document (copseref28.Right), walked. -/
namespace Go.Proofs.YtcaeihfgdlffkaaGreatRRRRDoor.RriS
set_option linter.unusedVariables false
set_option linter.unusedSimpArgs false
open Go.RowKit Base SeqM CfM StM StV RscX RswW RfrW RseW

/-- a state is loaded from its box, whatever the guard, if it is wanted -/
theorem loadG {ops : Array Oper} {rest : List Oper} {o : Oper} {a : Act} {w : World} {Q : Exit → Act → World → Prop} (hw : Region.wanted o (yielded ops a.tmps) = true) (x : Operand) (ho : o.op = .load 28 x) (g : Nat) (cs : Array Value) (hcs : cs.size = 17) (hx : a.eval x = .pointer (some ⟨g, 0, none⟩))
    (hg : w.heap[g]? = some (.cells cs 28 (0, 0))) (h : wpList Tryz.prog ops Q rest (a.put o.dst (.agg cs)) w) : wpList Tryz.prog ops Q (o :: rest) a w :=
  BigFrame.wpList_want hw fun K hK => wp_load_row 28 x ho g hx 28 _ _ _ hg Tryz.underlying28 rfl (by rw [hcs]; kernel_rfl) (hK _ _ h)
def Small (s : St) : Prop := ∀ g ∈ s.forest, g.nodes.length ≤ 1000000
set_option maxHeartbeats 8000000 in
set_option maxRecDepth 100000 in
theorem RRightS_any (s : St) (wv fv av : Value) (w : World) (h : StIn w w.heap.size s wv fv av) (hi : StI s) (hsm : Small s) :
    Calls Tryz.prog 18 #[.agg (stC s wv fv av).toArray] w fun e w' => e = .returned (.bool (rightB s)) ∧ Below w.heap.size w w' := by
  have HIN := Lib.hid h
  have HI := Lib.hid hi
  obtain ⟨a1, k1, e1, _⟩ := h.1.form
  obtain ⟨a2, k2, e2, _⟩ := h.2.1.form
  obtain ⟨a3, k3, e3, _⟩ := h.2.2
  generalize s.win.length = n1 at *
  generalize s.forest.length = n2 at *
  generalize s.alerts.length = n3 at *
  subst e1 e2 e3
  have HSR := Lib.hid (fun W => RRight_any s.cf W)
  have HRB := Lib.hid (show rightB s = (confB s.cf && decide (cnt s.count) && windowB s && treesB s && alertsB s) from rfl)
  have HW := Lib.hid (fun (hc : confOk s.cf) (hn : cnt s.count) W (hw : Below w.heap.size w W) => Rwindow_any s (.slice a1 n1 k1) (.slice a2 n2 k2) (.slice a3 n3 k3) W (HIN.out.up hw).1 hi.2.2.2.2.1 ⟨⟨_, _, _, rfl⟩, _, _, _, rfl⟩ hc hn)
  have HT := Lib.hid (fun (hc : confOk s.cf) (hn : cnt s.count) W (hw : Below w.heap.size w W) => Rforest_any s (.slice a1 n1 k1) (.slice a2 n2 k2) (.slice a3 n3 k3) W (HIN.out.up hw).2.1 hsm ⟨⟨_, _, _, rfl⟩, _, _, _, rfl⟩ hc hn)
  have HA := Lib.hid (fun (hc : confOk s.cf) (hn : cnt s.count) W (hw : Below w.heap.size w W) => Ralerts_any s (.slice a1 n1 k1) (.slice a2 n2 k2) (.slice a3 n3 k3) W (HIN.out.up hw).2.2 hi.2.2.2.2.2.2 ⟨⟨_, _, _, rfl⟩, _, _, _, rfl⟩ (by unfold confOk at hc; omega) hn hi.2.2.2.1)
  unfold stC at HW HT HA
  unfold stC
  obtain ⟨wb, hwb⟩ : ∃ b, windowB s = b := ⟨_, rfl⟩
  obtain ⟨tb, htb⟩ : ∃ b, treesB s = b := ⟨_, rfl⟩
  obtain ⟨ab, hab⟩ : ∃ b, alertsB s = b := ⟨_, rfl⟩
  rw [hwb] at HW
  rw [htb] at HT
  rw [hab] at HA
  rw [hwb, htb, hab] at HRB
  obtain ⟨R, hR⟩ : ∃ R, rightB s = R := ⟨_, rfl⟩
  rw [hR] at HRB ⊢
  obtain ⟨cf, count, last, seq, win, forest, alerts⟩ := s
  dsimp only at HSR HRB HW HT HA ⊢
  obtain ⟨cb, hcb⟩ : ∃ b, confB cf = b := ⟨_, rfl⟩
  rw [hcb] at HSR HRB
  have HCB := Lib.hid (show cb = true → confOk cf from fun h => of_decide_eq_true (hcb.trans h))
  clear hcb h hi hwb htb hab hR HI HIN hsm
  replace HW := Lib.hid (fun (h : cb = true) => HW.out (HCB.out h))
  replace HT := Lib.hid (fun (h : cb = true) => HT.out (HCB.out h))
  replace HA := Lib.hid (fun (h : cb = true) => HA.out (HCB.out h))
  clear HCB
  obtain ⟨c0, c1, c2, c3, c4, c5, c6, c7, c8, c9, c10⟩ := cf
  unfold CfM.cfC at HSR HW HT HA ⊢
  dsimp only [List.cons_append, List.nil_append] at HSR HW HT HA ⊢
  obtain ⟨W, eW⟩ : ∃ W, w.alloc (.cells #[.int .i64 c0, .int .i64 c1, .int .i64 c2, .int .i64 c3, .int .i64 c4, .int .i64 c5, .int .i64 c6, .int .i64 c7, .int .i64 c8, .int .i64 c9, .int .i64 c10, .int .i64 count, .int .i64 last, .int .i64 seq, .slice a1 n1 k1, .slice a2 n2 k2, .slice a3 n3 k3] 28) = W := ⟨_, rfl⟩
  have HB := Lib.hid (show Below w.heap.size w W by rw [← eW]; exact below_a1 _ _)
  have HSB := Lib.hid (show ∀ W', Below W.heap.size W W' → W'.heap[w.heap.size]? = some (.cells #[.int .i64 c0, .int .i64 c1, .int .i64 c2, .int .i64 c3, .int .i64 c4, .int .i64 c5, .int .i64 c6, .int .i64 c7, .int .i64 c8, .int .i64 c9, .int .i64 c10, .int .i64 count, .int .i64 last, .int .i64 seq, .slice a1 n1 k1, .slice a2 n2 k2, .slice a3 n3 k3] 28 (0, 0)) by
    intro W' hb
    rw [hb.block _ (by rw [← eW]; simp), ← eW]
    exact heap_alloc_new w _)
  have HCS := Lib.hid (show W.cell? ⟨w.heap.size, 0, none⟩ = some (.int .i64 c0) ∧ W.cell? ⟨w.heap.size, 1, none⟩ = some (.int .i64 c1) ∧ W.cell? ⟨w.heap.size, 2, none⟩ = some (.int .i64 c2) ∧ W.cell? ⟨w.heap.size, 3, none⟩ = some (.int .i64 c3) ∧ W.cell? ⟨w.heap.size, 4, none⟩ = some (.int .i64 c4) ∧ W.cell? ⟨w.heap.size, 5, none⟩ = some (.int .i64 c5) ∧ W.cell? ⟨w.heap.size, 6, none⟩ = some (.int .i64 c6) ∧ W.cell? ⟨w.heap.size, 7, none⟩ = some (.int .i64 c7) ∧ W.cell? ⟨w.heap.size, 8, none⟩ = some (.int .i64 c8) ∧ W.cell? ⟨w.heap.size, 9, none⟩ = some (.int .i64 c9) ∧ W.cell? ⟨w.heap.size, 10, none⟩ = some (.int .i64 c10) by
    subst eW
    refine ⟨?_, ?_, ?_, ?_, ?_, ?_, ?_, ?_, ?_, ?_, ?_⟩ <;> go_simp)
  have HC1 := Lib.hid (show ∀ W', Below W.heap.size W W' → W'.cell? ⟨w.heap.size, 11, none⟩ = some (.int .i64 count) by
    intro W' hb
    refine keepA hb ?_
    subst eW
    go_simp)
  obtain ⟨d0, d1, d2, d3, d4, d5, d6, d7, d8, d9, d10⟩ := HCS.out
  go_enter Tryz.func18, Tryz.ntmps18
  go_wp2_with fail
  refine (HSR.out _).mono ?_
  rintro e w1 ⟨rfl, hb1⟩
  have HB1 := Lib.hid hb1
  have t11 := HC1.out w1 hb1
  clear d0 d1 d2 d3 d4 d5 d6 d7 d8 d9 d10 hb1
  cases cb
  · have F := Lib.hid (show R = false by rw [HRB.out]; rfl)
    go_wp2_with fail
    go_ret
    exact ⟨by rw [F.out]; rfl, bt HB1.out HB.out⟩
  by_cases q1 : 0 ≤ count
  rotate_left
  · have F := Lib.hid (show R = false by rw [HRB.out, decide_eq_false (fun h : cnt count => q1 h.1)]; rfl)
    go_wp2_with fail
    go_ret
    exact ⟨by rw [F.out]; rfl, bt HB1.out HB.out⟩
  by_cases q2 : count ≤ 1099511627776
  rotate_left
  · have F := Lib.hid (show R = false by rw [HRB.out, decide_eq_false (fun h : cnt count => q2 h.2)]; rfl)
    go_wp2_with fail
    go_ret
    exact ⟨by rw [F.out]; rfl, bt HB1.out HB.out⟩
  have HR := Lib.hid (show R = (wb && tb && ab) by rw [HRB.out, decide_eq_true (show cnt count from ⟨q1, q2⟩)]; simp)
  replace HW := Lib.hid (HW.out rfl ⟨q1, q2⟩)
  replace HT := Lib.hid (HT.out rfl ⟨q1, q2⟩)
  replace HA := Lib.hid (HA.out rfl ⟨q1, q2⟩)
  go_wp2_with (refine (id ?_ : wpList _ _ _ (⟨some 17, .load _ _, _, _, _, _⟩ :: _) _ _); refine loadG (by rfl) (.tmp 1) rfl w.heap.size _ rfl (by rfl) (HSB.out _ HB1.out) ?_)
  refine (HW.out _ (bt HB1.out HB.out)).mono ?_
  rintro e w2 ⟨rfl, hb2⟩
  have HB2 := Lib.hid (bt hb2 HB1.out)
  clear hb2 t11
  cases wb
  · have F := Lib.hid (show R = false by rw [HR.out]; rfl)
    go_wp2_with fail
    go_ret
    exact ⟨by rw [F.out]; rfl, bt HB2.out HB.out⟩
  go_wp2_with (refine (id ?_ : wpList _ _ _ (⟨some 21, .load _ _, _, _, _, _⟩ :: _) _ _); refine loadG (by rfl) (.tmp 1) rfl w.heap.size _ rfl (by rfl) (HSB.out _ HB2.out) ?_)
  refine (HT.out _ (bt HB2.out HB.out)).mono ?_
  rintro e w3 ⟨rfl, hb3⟩
  have HB3 := Lib.hid (bt hb3 HB2.out)
  clear hb3
  cases tb
  · have F := Lib.hid (show R = false by rw [HR.out]; rfl)
    go_wp2_with fail
    go_ret
    exact ⟨by rw [F.out]; rfl, bt HB3.out HB.out⟩
  go_wp2_with (refine (id ?_ : wpList _ _ _ (⟨some 25, .load _ _, _, _, _, _⟩ :: _) _ _); refine loadG (by rfl) (.tmp 1) rfl w.heap.size _ rfl (by rfl) (HSB.out _ HB3.out) ?_)
  refine (HA.out _ (bt HB3.out HB.out)).mono ?_
  rintro e w4 ⟨rfl, hb4⟩
  have HB4 := Lib.hid (bt hb4 HB3.out)
  clear hb4
  have F := Lib.hid (show R = ab by rw [HR.out]; rfl)
  go_wp2_with fail
  go_ret
  exact ⟨by rw [F.out]; rfl, bt HB4.out HB.out⟩
end Go.Proofs.YtcaeihfgdlffkaaGreatRRRRDoor.RriS
