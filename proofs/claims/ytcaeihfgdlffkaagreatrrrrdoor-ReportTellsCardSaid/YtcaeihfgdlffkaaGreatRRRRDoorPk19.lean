/- A state's trees: right? walked (look.trees; printed by mktrw.py). -/
import Derived.Test.YtcaeihfgdlffkaaGreatRRRRDoorPk18
import Derived.Test.YtcaeihfgdlffkaaGreatRRRRDoorPk16
import Derived.Test.YtcaeihfgdlffkaaGreatRRRRDoorPk06
import Derived.Test.YtcaeihfgdlffkaaGreatRRRRDoorPk15
namespace Go.Proofs.YtcaeihfgdlffkaaGreatRRRRDoor.TrwW
set_option linter.unusedVariables false
set_option linter.unusedSimpArgs false
open Go.RowKit Base SeqM CfM RptC ScoX ShpM ShpT StM StV WinW BirW FisW

theorem all_next {α : Type} {l : List α} {k : Nat} {x : α} (h : l[k]? = some x) (f : α → Bool) : (l.take (k + 1)).all f = ((l.take k).all f && f x) := by
  rw [SeqM.take_next h, List.all_append]; simp
theorem all_no {α : Type} {l : List α} {k : Nat} {f : α → Bool} (h : (l.take k).all f = false) : l.all f = false := by
  rw [List.all_eq_false] at h ⊢
  obtain ⟨x, hx, hf⟩ := h
  exact ⟨x, List.mem_of_mem_take hx, hf⟩
def TRel (l : List (Gr × Int)) (f : Gr × Int → Bool) (w : World) (i : Value) (wr : World) : Prop := ∃ k : Nat, k ≤ l.length ∧ i = .int .i64 k ∧ (l.take k).all f = true ∧ Below w.heap.size w wr
theorem root_of {d : Int} {g : Gr} (h : grownB d g = true) : ∃ x, g.nodes[0]? = some x := by
  unfold grownB at h
  rw [Bool.and_eq_true] at h
  obtain ⟨_, _, b, hat, hct, _⟩ := isTB_true.1 h.2
  have := count_pos b
  exact ⟨_, List.getElem?_eq_getElem (show 0 < g.nodes.length by omega)⟩
set_option maxHeartbeats 4000000 in
set_option maxRecDepth 100000 in
theorem trees_any (s : St) (wv fv av : Value) (f : Int) (w : World) (h : Grs w 0 w.heap.size fv s.forest) (hv : (∃ a n c, wv = .slice a n c) ∧ ∃ a n c, av = .slice a n c) (hc : confOk s.cf) (hn : cnt s.count) :
    Calls Tryz.prog 40 #[.agg (lkC s wv fv av f).toArray] w fun e w' => e = .returned (.bool (treesB s)) ∧ Below w.heap.size w w' := by
  have HS := Lib.hid h
  have HBI := Lib.hid (fun W => Births_any s.cf s.count hc hn W)
  obtain ⟨A, cap, rfl, hc1, hc2, _⟩ := h.form
  obtain ⟨⟨a1, n1, c1', rfl⟩, a2, n2, c2', rfl⟩ := hv
  have HFI := Lib.hid (fun W (hw : Below w.heap.size w W) => FIs_any _ s.forest W (HS.out.up hw))
  have HTB := Lib.hid (show treesB s = (decide (s.forest.length = (birthsL s.cf s.count).length) && forestB s.forest && ((s.forest.zip (birthsL s.cf s.count)).all fun x => treeB s.cf x.2 x.1)) from rfl)
  obtain ⟨⟨c0, c1, c2, c3, c4, c5, c6, c7, c8, c9, c10⟩, count, last, seq, win, forest, alerts⟩ := s
  unfold lkC stC
  unfold CfM.cfC at HBI ⊢
  dsimp only [List.cons_append, List.nil_append] at HS HBI HFI HTB hc1 ⊢
  generalize treesB ⟨⟨c0, c1, c2, c3, c4, c5, c6, c7, c8, c9, c10⟩, count, last, seq, win, forest, alerts⟩ = R at *
  generalize birthsL ⟨c0, c1, c2, c3, c4, c5, c6, c7, c8, c9, c10⟩ count = BL at *
  obtain ⟨n, hn'⟩ : ∃ n, forest.length = n := ⟨_, rfl⟩
  have HN := Lib.hid hn'
  rw [hn'] at HS HFI hc1 ⊢
  clear h hn' hc hn
  obtain ⟨W, eW⟩ : ∃ W, w.alloc (.cells #[.int .i64 c0, .int .i64 c1, .int .i64 c2, .int .i64 c3, .int .i64 c4, .int .i64 c5, .int .i64 c6, .int .i64 c7, .int .i64 c8, .int .i64 c9, .int .i64 c10, .int .i64 count, .int .i64 last, .int .i64 seq, .slice a1 n1 c1', .slice A n cap, .slice a2 n2 c2', .int .i64 f] 84) = W := ⟨_, rfl⟩
  have HB := Lib.hid (show Below w.heap.size w W by rw [← eW]; exact below_a1 _ _)
  have HF := Lib.hid (show ∀ W' : World, Below W.heap.size W W' → (W'.cell? ⟨w.heap.size, 0, none⟩ = some (.int .i64 c0) ∧ W'.cell? ⟨w.heap.size, 3, none⟩ = some (.int .i64 c3) ∧ W'.cell? ⟨w.heap.size, 15, none⟩ = some (.slice A n cap)) by
    intro W' hb
    subst eW
    refine ⟨keepA hb ?_, keepA hb ?_, keepA hb ?_⟩ <;> go_simp)
  have HCS := Lib.hid (show W.cell? ⟨w.heap.size, 11, none⟩ = some (.int .i64 count) ∧ W.cell? ⟨w.heap.size, 0, none⟩ = some (.int .i64 c0) ∧ W.cell? ⟨w.heap.size, 1, none⟩ = some (.int .i64 c1) ∧ W.cell? ⟨w.heap.size, 2, none⟩ = some (.int .i64 c2) ∧ W.cell? ⟨w.heap.size, 3, none⟩ = some (.int .i64 c3) ∧ W.cell? ⟨w.heap.size, 4, none⟩ = some (.int .i64 c4) ∧ W.cell? ⟨w.heap.size, 5, none⟩ = some (.int .i64 c5) ∧ W.cell? ⟨w.heap.size, 6, none⟩ = some (.int .i64 c6) ∧ W.cell? ⟨w.heap.size, 7, none⟩ = some (.int .i64 c7) ∧ W.cell? ⟨w.heap.size, 8, none⟩ = some (.int .i64 c8) ∧ W.cell? ⟨w.heap.size, 9, none⟩ = some (.int .i64 c9) ∧ W.cell? ⟨w.heap.size, 10, none⟩ = some (.int .i64 c10) by
    subst eW
    refine ⟨?_, ?_, ?_, ?_, ?_, ?_, ?_, ?_, ?_, ?_, ?_, ?_⟩ <;> go_simp)
  obtain ⟨d11, d0, d1, d2, d3, d4, d5, d6, d7, d8, d9, d10⟩ := HCS.out
  obtain ⟨-, -, f15⟩ := HF.out W (Below.refl _ _)
  go_enter Tryz.func40, Tryz.ntmps40
  go_wp2_with fail
  refine (HBI.out _).mono ?_
  rintro e w1 ⟨⟨bv, rfl, hbv⟩, hb1⟩
  have HB1 := Lib.hid hb1
  obtain ⟨A3, k3, rfl, hk1, hk2, hr3, _⟩ := hbv
  unfold maxLen at hk2
  have HR3 := Lib.hid hr3
  obtain ⟨m, hm⟩ : ∃ m, BL.length = m := ⟨_, rfl⟩
  have HM := Lib.hid hm
  rw [hm] at hk1 ⊢
  obtain ⟨-, -, f15'⟩ := HF.out w1 hb1
  have HWW := Lib.hid (show Below w.heap.size w w1 from bt hb1 HB.out)
  clear d11 f15 d0 d1 d2 d3 d4 d5 d6 d7 d8 d9 d10 hb1 hr3 hm
  by_cases hnm : n = m
  · subst hnm
    go_wp2_with fail
    refine (HFI.out _ HWW.out).mono ?_
    rintro e w2 ⟨rfl, hb2⟩
    have HB2 := Lib.hid (show Below W.heap.size W w2 from bt hb2 HB1.out)
    have HB12 := Lib.hid hb2
    obtain ⟨-, -, f15''⟩ := HF.out w2 HB2.out
    cases hfb : forestB forest
    · have F := Lib.hid (show R = false by rw [HTB.out, hfb]; simp)
      clear hfb hb2
      go_wp2_with fail
      go_ret
      exact ⟨by rw [F.out]; rfl, bt HB2.out HB.out⟩
    · have HFB := Lib.hid hfb
      have HRT := Lib.hid (show R = ((forest.zip BL).all fun x => treeB ⟨c0, c1, c2, c3, c4, c5, c6, c7, c8, c9, c10⟩ x.2 x.1) by rw [HTB.out, hfb, HN.out, HM.out, decide_eq_true rfl]; rfl)
      have HZL := Lib.hid (show (forest.zip BL).length = n by rw [List.length_zip, HN.out, HM.out]; omega)
      clear hfb hb2
      go_wp2_with fail
      go_loopw [35] (fun i wr => TRel (forest.zip BL) (fun x => treeB ⟨c0, c1, c2, c3, c4, c5, c6, c7, c8, c9, c10⟩ x.2 x.1) w2 i wr) (fun i _ => n - (intOf i).toNat)
      case atStart => exact ⟨0, Nat.zero_le _, rfl, rfl, Below.refl _ _⟩
      case round =>
        obtain ⟨k, hk, rfl, ht, hbr⟩ := hrel
        rw [HZL.out] at hk
        have HT := Lib.hid ht
        have HBR := Lib.hid hbr
        have HBW := Lib.hid (show Below W.heap.size W wr from bt hbr HB2.out)
        clear ht
        by_cases hlt : k < n
        · obtain ⟨g, hg⟩ : ∃ x, forest[k]? = some x := ⟨_, List.getElem?_eq_getElem (by rw [HN.out]; exact hlt)⟩
          obtain ⟨ad, xv, rfl, hbk, hcs, hnd⟩ := (HS.out.up (bt HBW.out HB.out)).get hg
          obtain ⟨be, b, rfl, _, hbb, hbx, hbc⟩ := rdI HR3.out (i := k) (by rw [HM.out]; omega)
          have HX := Lib.hid (all_next (show (forest.zip BL)[k]? = some (g, b) by rw [List.getElem?_zip_eq_some]; exact ⟨hg, hbx⟩) (fun x : Gr × Int => treeB ⟨c0, c1, c2, c3, c4, c5, c6, c7, c8, c9, c10⟩ x.2 x.1))
          have hgb : grownB ((forest[0]?.map (·.dim)).getD 0) g = true := by
            have h9 := HFB.out
            unfold forestB at h9
            rw [Bool.and_eq_true] at h9
            exact (List.all_eq_true.1 h9.2) g (List.mem_of_getElem? hg)
          obtain ⟨x, hx0⟩ := root_of hgb
          obtain ⟨NA, nc, hxf, hn1, hn2, _⟩ := hnd.form
          subst hxf
          obtain ⟨an, cv, e1, hbn, _, _, _, _, s4, _⟩ := hnd.get hx0
          have HTR := Lib.hid (show treeB ⟨c0, c1, c2, c3, c4, c5, c6, c7, c8, c9, c10⟩ b g = (decide (g.born = b) && decide (g.dim = c0) && decide (x.size = c3)) by unfold treeB; rw [hx0]; rfl)
          have hnl : 0 < g.nodes.length := (List.getElem?_eq_some_iff.1 hx0).1
          subst e1
          obtain ⟨dim, nodes, born⟩ := g
          obtain ⟨q0, q3, -⟩ := HF.out wr HBW.out
          have t0 : wr.cell? (ad.add (k * 3)) = some (.int .i64 dim) := hcs 0 _ rfl
          have t1 : wr.cell? ⟨(ad.add (k * 3)).block, (ad.add (k * 3)).off + 1, none⟩ = some (.slice (some an) nodes.length nc) := by rw [add_off _ _ _ (by decide)]; exact hcs 1 _ rfl
          have t2 : wr.cell? ⟨(ad.add (k * 3)).block, (ad.add (k * 3)).off + 2, none⟩ = some (.int .i64 born) := by rw [add_off _ _ _ (by decide)]; exact hcs 2 _ rfl
          have u0 : wr.cell? (be.add k) = some (.int .i64 b) := ((bt hbr HB12.out).cell (by rw [Base.add_block]; exact hbb)).trans hbc
          have hadd : an.add (0 * 5) = an := by unfold Addr.add; simp
          rw [hadd] at s4
          dsimp only at HX HTR hnl hn1 t1
          obtain ⟨nl, hnl'⟩ : ∃ nl, nodes.length = nl := ⟨_, rfl⟩
          rw [hnl'] at hnl hn1 t1
          have hzb : be.block < wr.heap.size := Nat.lt_of_lt_of_le hbb (bt hbr HB12.out).size
          have hzw : w.heap.size < wr.heap.size := World.block_lt_of_cell? _ _ q0
          have hzn : an.block < wr.heap.size := hbn
          have h05 : (0 : Nat) * 5 = 0 := rfl
          clear hcs hnd hg hbx hbc hgb hx0 hbr hnl' hadd
          obtain ⟨X, eX⟩ : ∃ X, wr.alloc (.cells #[.int .i64 dim, .slice (some an) nl nc, .int .i64 born] 107) = X := ⟨_, rfl⟩
          have HBX := Lib.hid (show Below wr.heap.size wr X by rw [← eX]; exact below_a1 _ _)
          have x0 : X.cell? ⟨wr.heap.size, 0, none⟩ = some (.int .i64 dim) := by rw [← eX]; clear eX; go_simp
          have x1 : X.cell? ⟨wr.heap.size, 1, none⟩ = some (.slice (some an) nl nc) := by rw [← eX]; clear eX; go_simp
          have x2 : X.cell? ⟨wr.heap.size, 2, none⟩ = some (.int .i64 born) := by rw [← eX]; clear eX; go_simp
          have v0 := keepA HBX.out u0
          have r0 := keepA HBX.out q0
          have r3 := keepA HBX.out q3
          have y4 := keepA HBX.out s4
          have HWX := Lib.hid (show Below w2.heap.size w2 X from bt HBX.out HBR.out)
          have HNO := Lib.hid (fun (h : treeB ⟨c0, c1, c2, c3, c4, c5, c6, c7, c8, c9, c10⟩ b ⟨dim, nodes, born⟩ = false) => show R = false by rw [HRT.out]; exact all_no (k := k + 1) (by rw [HX.out, h]; simp))
          by_cases p1 : born = b
          · by_cases p2 : dim = c0
            · by_cases p3 : x.size = c3
              · have F := Lib.hid (show ((forest.zip BL).take (k + 1)).all (fun x => treeB ⟨c0, c1, c2, c3, c4, c5, c6, c7, c8, c9, c10⟩ x.2 x.1) = true by rw [HX.out, HT.out, HTR.out, decide_eq_true p1, decide_eq_true p2, decide_eq_true p3]; rfl)
                subst p1 p2
                rw [p3] at y4
                clear p3
                go_wp2_with fail
                go_quiet (fail)
                go_wp2_with fail
                exact ⟨⟨k + 1, by rw [HZL.out]; omega, by go_num, F.out, below_drewN HWX.out nq⟩, by simp [intOf]; omega⟩
              · have F := Lib.hid (HNO.out (by rw [HTR.out, decide_eq_false p3]; simp))
                have p3b : (x.size != c3) = true := by rw [bne_iff_ne]; exact p3
                subst p1 p2
                go_wp2_with fail
                go_quiet (fail)
                go_wp2_with fail
                go_ret
                exact ⟨by rw [F.out]; rfl, bt (below_drewN HWX.out nq) (bt HB2.out HB.out)⟩
            · have F := Lib.hid (HNO.out (by rw [HTR.out, decide_eq_false p2]; simp))
              have p2b : (dim != c0) = true := by rw [bne_iff_ne]; exact p2
              subst p1
              go_wp2_with fail
              go_quiet (fail)
              go_wp2_with fail
              go_ret
              exact ⟨by rw [F.out]; rfl, bt (below_drewN HWX.out nq) (bt HB2.out HB.out)⟩
          · have F := Lib.hid (HNO.out (by rw [HTR.out, decide_eq_false p1]; simp))
            have p1b : (born != b) = true := by rw [bne_iff_ne]; exact p1
            go_wp2_with fail
            go_quiet (fail)
            go_wp2_with fail
            go_ret
            exact ⟨by rw [F.out]; rfl, bt (below_drewN HWX.out nq) (bt HB2.out HB.out)⟩
        · have F := Lib.hid (show R = true by
            have := HT.out
            rw [List.take_of_length_le (by rw [HZL.out]; omega)] at this
            rw [HRT.out, this])
          go_wp2_with fail
          go_ret
          exact ⟨by rw [F.out]; rfl, bt HBW.out HB.out⟩
  · have F := Lib.hid (show R = false by rw [HTB.out, HN.out, HM.out, decide_eq_false hnm]; rfl)
    have hnb : ((n : Int) != (m : Int)) = true := by rw [bne_iff_ne]; omega
    clear hnm
    go_wp2_with fail
    go_ret
    exact ⟨by rw [F.out]; rfl, HWW.out⟩
end Go.Proofs.YtcaeihfgdlffkaaGreatRRRRDoor.TrwW

/- Which of two scores is odder, walked (lines of WideW and ScoW). -/
namespace Go.Proofs.YtcaeihfgdlffkaaGreatRRRRDoor.OdrX
set_option linter.unusedVariables false
set_option linter.unusedSimpArgs false
open Go.RowKit Base BigM BigZ WideM WidX ScoX StM
open SeqM (bt)

theorem isNaN_any (x : Int) (w : World) : Calls Tryz.prog 175 #[.int .i64 x] w fun e w' => e = .returned (.bool false) ∧ w = w' := by
  go_enter Tryz.func175, Tryz.ntmps175
  go_wp2
  go_ret
  exact ⟨ret_bool (by simp), rfl⟩
theorem Compare_any (x y : Int) (w : World) : Calls Tryz.prog 178 #[.int .i64 x, .int .i64 y] w fun e w' => e = .returned (.int .i64 (ord x y)) ∧ w = w' := by
  rcases ord_cases x y with ⟨e, h⟩ | ⟨e, h⟩ | ⟨e, h⟩
  all_goals
    have HE := Lib.hid e
    clear e
    go_enter Tryz.func178, Tryz.ntmps178
    go_wp2_with (go_at_call 175; refine (isNaN_any _ _).mono ?_; rintro e w' ⟨rfl, rfl⟩)
    go_ret
    exact ⟨ret_int HE.out.symm, rfl⟩
theorem sign_any (a b : Int) (w : World) : Calls Tryz.prog 177 #[.int .i64 a, .int .i64 b] w fun e w' => e = .returned (.int .i64 (ord (a * b) 0)) ∧ w = w' := by
  have HS := Lib.hid (sgn_mul a b)
  have h1 := ord_bd a 0
  have h2 := ord_bd b 0
  have h3 : -1 ≤ ord a 0 * ord b 0 ∧ ord a 0 * ord b 0 ≤ 1 := by rw [← HS.out]; exact ord_bd _ _
  go_enter Tryz.func177, Tryz.ntmps177
  go_wp2_with (go_at_call 178; refine (Compare_any _ _ _).mono ?_; rintro e w' ⟨rfl, rfl⟩)
  go_ret
  exact ⟨ret_int HS.out.symm, rfl⟩
theorem wsize_any (a : Int) (w : World) (a0 : -9223372036854775808 ≤ a) (a1 : a ≤ 9223372036854775807) :
    Calls Tryz.prog 179 #[.int .i64 a] w fun e w' => e = .returned (.int .u64 (a.natAbs : Int)) ∧ w = w' := by
  by_cases h : a < 0
  · go_enter Tryz.func179, Tryz.ntmps179
    go_wp2
    go_ret
    exact ⟨ret_int (by first | omega | (simp [IntKind.wrap]; omega) | (unfold IntKind.wrap; simp [IntKind.bits, IntKind.signed]; omega)), rfl⟩
  · go_enter Tryz.func179, Tryz.ntmps179
    go_wp2
    go_ret
    exact ⟨ret_int (by omega), rfl⟩
set_option maxHeartbeats 2000000 in
theorem Prods_any (a b c d : Int) (w : World) (a0 : -9223372036854775808 ≤ a ∧ a ≤ 9223372036854775807) (b0 : -9223372036854775808 ≤ b ∧ b ≤ 9223372036854775807) (c0 : -9223372036854775808 ≤ c ∧ c ≤ 9223372036854775807) (d0 : -9223372036854775808 ≤ d ∧ d ≤ 9223372036854775807) :
    Calls Tryz.prog 163 #[.int .i64 a, .int .i64 b, .int .i64 c, .int .i64 d] w fun e w' => e = .returned (.int .i64 (ord (a * b) (c * d))) ∧ Below w.heap.size w w' := by
  have p1 := ord_bd (a * b) 0
  have p2 := ord_bd (c * d) 0
  obtain ⟨s, es⟩ : ∃ s, ord (a * b) 0 = s := ⟨_, rfl⟩
  obtain ⟨t, et⟩ : ∃ t, ord (c * d) 0 = t := ⟨_, rfl⟩
  rw [es] at p1
  rw [et] at p2
  have ES := Lib.hid es
  have ET := Lib.hid et
  by_cases hst : s = t
  · have HE := prods_eq (a * b) (c * d) (by rw [es, et, hst])
    rw [es] at HE
    have HE := Lib.hid HE
    subst hst
    have na := natAbs_bd a0.1 a0.2
    have nb := natAbs_bd b0.1 b0.2
    have nc := natAbs_bd c0.1 c0.2
    have nd := natAbs_bd d0.1 d0.2
    have hx := Lib.hid (natAbs_mul' a b)
    have hy := Lib.hid (natAbs_mul' c d)
    have hr := ord_bd (a * b) (c * d)
    clear es et
    go_enter Tryz.func163, Tryz.ntmps163
    go_wp2_with fail
    refine (sign_any a b _).mono ?_
    rintro e w' ⟨rfl, rfl⟩
    rw [ES.out]
    go_wp2_with fail
    refine (sign_any c d _).mono ?_
    rintro e w' ⟨rfl, rfl⟩
    rw [ET.out]
    go_wp2_with fail
    refine (wsize_any a _ a0.1 a0.2).mono ?_
    rintro e w' ⟨rfl, rfl⟩
    go_wp2_with fail
    refine (wsize_any b _ b0.1 b0.2).mono ?_
    rintro e w' ⟨rfl, rfl⟩
    go_wp2_with fail
    refine (WMul_any _ _ _ na.1 (by omega) nb.1 (by omega)).mono ?_
    rintro e w1 ⟨rfl, hb1⟩
    rw [hx.out]
    go_wp2_with fail
    refine (wsize_any c _ c0.1 c0.2).mono ?_
    rintro e w' ⟨rfl, rfl⟩
    go_wp2_with fail
    refine (wsize_any d _ d0.1 d0.2).mono ?_
    rintro e w' ⟨rfl, rfl⟩
    go_wp2_with fail
    refine (WMul_any _ _ _ nc.1 (by omega) nd.1 (by omega)).mono ?_
    rintro e w2 ⟨rfl, hb2⟩
    rw [hy.out]
    go_wp2_with fail
    refine (WCmp_any _ _ _ _ _ (by omega) (by omega) (by omega) (by omega)).mono ?_
    rintro e w3 ⟨rfl, hb3⟩
    rw [words, words]
    obtain ⟨o, eo⟩ : ∃ o, ord ((a * b).natAbs : Int) ((c * d).natAbs : Int) = o := ⟨_, rfl⟩
    have ho := ord_bd ((a * b).natAbs : Int) ((c * d).natAbs : Int)
    rw [eo] at ho ⊢
    have EO := Lib.hid (show s * o = ord (a * b) (c * d) by rw [← eo]; exact HE.out)
    have hso : -1 ≤ s * o ∧ s * o ≤ 1 := by rw [EO.out]; exact ord_bd _ _
    clear eo
    go_wp2
    go_ret
    exact ⟨ret_int EO.out, hb1.trans ((hb2.trans (hb3.mono hb2.size)).mono hb1.size)⟩
  · have HE := Lib.hid (show ord s t = ord (a * b) (c * d) by rw [← es, ← et]; exact prods_ne _ _ (by rw [es, et]; exact hst))
    have hb : (s == t) = false := by simpa using hst
    clear es et hst
    go_enter Tryz.func163, Tryz.ntmps163
    go_wp2_with fail
    refine (sign_any a b _).mono ?_
    rintro e w' ⟨rfl, rfl⟩
    rw [ES.out]
    go_wp2_with fail
    refine (sign_any c d _).mono ?_
    rintro e w' ⟨rfl, rfl⟩
    rw [ET.out]
    go_wp2_with (go_at_call 178; refine (Compare_any _ _ _).mono ?_; rintro e w' ⟨rfl, rfl⟩)
    go_ret
    exact ⟨ret_int HE.out, Below.refl _ _⟩
theorem prod60 {p s : Int} (h1 : 0 ≤ p) (h2 : p ≤ 274877906944) (h3 : 1 ≤ s) (h4 : s ≤ 16) : 0 ≤ p * s ∧ p * s ≤ 4398046511104 := by
  refine ⟨Int.mul_nonneg h1 (by omega), ?_⟩
  have := Int.mul_le_mul h2 h4 (by omega) (by omega)
  omega
theorem odder_any (p q r s : Int) (w : World) (h1 : Fit p q) (h2 : Fit r s) :
    Calls Tryz.prog 137 #[.agg #[.int .i64 p, .int .i64 q], .agg #[.int .i64 r, .int .i64 s]] w fun e w' => e = .returned (.int .i64 (odV p q r s)) ∧ Below w.heap.size w w' := by
  go_enter Tryz.func137, Tryz.ntmps137
  go_wp2_with fail
  refine (Prods_any r q p s _ ⟨h2.1.1, h2.1.2⟩ ⟨h1.2.1, h1.2.2⟩ ⟨h1.1.1, h1.1.2⟩ ⟨h2.2.1, h2.2.2⟩).mono ?_
  rintro e w1 ⟨rfl, hb1⟩
  go_wp2
  go_ret
  exact ⟨rfl, bt hb1 (below_alloc2 _ _ _)⟩
set_option maxHeartbeats 1000000 in
theorem Odder_any (p q r s : Int) (w : World) (h1 : isS p q = true) (h2 : isS r s = true) :
    Calls Tryz.prog 117 #[.agg #[.int .i64 p, .int .i64 q], .agg #[.int .i64 r, .int .i64 s]] w fun e w' => e = .returned (.int .i64 (odV p q r s)) ∧ Below w.heap.size w w' := by
  obtain ⟨a1, a2, a3, a4, _⟩ := isS_true h1
  obtain ⟨b1, b2, b3, b4, _⟩ := isS_true h2
  have m1 := prod60 a3 a4 b1 b2
  have m2 := prod60 b3 b4 a1 a2
  have HO := Lib.hid (show odV p q r s = ord (r * q) (p * s) from rfl)
  obtain ⟨X, ex⟩ : ∃ X, p * s = X := ⟨_, rfl⟩
  obtain ⟨Y, ey⟩ : ∃ Y, r * q = Y := ⟨_, rfl⟩
  rw [ex] at m1
  rw [ey] at m2
  rcases Int.lt_trichotomy X Y with h | h | h
  · have F := Lib.hid (show odV p q r s = 1 by rw [HO.out, ex, ey]; exact ord_gt h)
    go_enter Tryz.func117, Tryz.ntmps117
    go_wp2
    go_ret
    exact ⟨ret_int F.out.symm, below_alloc2 _ _ _⟩
  · have F := Lib.hid (show odV p q r s = 0 by rw [HO.out, ex, ey]; exact ord_eq h.symm)
    have hh1 : ¬ X < Y := by omega
    have hh2 : ¬ Y < X := by omega
    clear h
    go_enter Tryz.func117, Tryz.ntmps117
    go_wp2
    go_ret
    exact ⟨ret_int F.out.symm, below_alloc2 _ _ _⟩
  · have F := Lib.hid (show odV p q r s = -1 by rw [HO.out, ex, ey]; exact ord_lt h)
    have hh1 : ¬ X < Y := by omega
    go_enter Tryz.func117, Tryz.ntmps117
    go_wp2
    go_ret
    exact ⟨ret_int F.out.symm, below_alloc2 _ _ _⟩
/-- both are right? -/
def bothS (p q r s : Int) : Bool := isS p q && isS r s
def cmpS (p q r s : Int) : Int := if bothS p q r s = true then odV p q r s else 0
def cmpSE (p q r s : Int) : Int := if bothS p q r s = true then 0 else 130
set_option maxHeartbeats 1000000 in
theorem SCmp_any (p q r s : Int) (w : World) (h1 : Fit p q) (h2 : Fit r s) :
    Calls Tryz.prog 113 #[.agg #[.int .i64 p, .int .i64 q], .agg #[.int .i64 r, .int .i64 s]] w fun e w' => e = .returned (.tuple #[.int .i64 (cmpS p q r s), .int .i64 (cmpSE p q r s)]) ∧ Below w.heap.size w w' := by
  cases ha : isS p q
  · have F := Lib.hid (show cmpS p q r s = 0 ∧ cmpSE p q r s = 130 by unfold cmpS cmpSE bothS; rw [ha]; exact ⟨rfl, rfl⟩)
    go_enter Tryz.func113, Tryz.ntmps113
    go_wp2_with fail
    refine (SIs_any p q _ h1).mono ?_
    rintro e w1 ⟨rfl, hb1⟩
    go_wp2
    go_ret2
    exact ⟨ret_int2 F.out.1.symm F.out.2.symm, bt hb1 (below_alloc2 _ _ _)⟩
  · cases hb : isS r s
    · have F := Lib.hid (show cmpS p q r s = 0 ∧ cmpSE p q r s = 130 by unfold cmpS cmpSE bothS; rw [ha, hb]; exact ⟨rfl, rfl⟩)
      go_enter Tryz.func113, Tryz.ntmps113
      go_wp2_with fail
      refine (SIs_any p q _ h1).mono ?_
      rintro e w1 ⟨rfl, hb1⟩
      have d0 := cell_at_below hb1 (w.heap.size + 1) 0 (.int .i64 r) (by go_simp)
      have d1 := cell_at_below hb1 (w.heap.size + 1) 1 (.int .i64 s) (by go_simp)
      go_wp2_with fail
      refine (SIs_any r s _ h2).mono ?_
      rintro e w2 ⟨rfl, hb2⟩
      go_wp2
      go_ret2
      exact ⟨ret_int2 F.out.1.symm F.out.2.symm, bt hb2 (bt hb1 (below_alloc2 _ _ _))⟩
    · have F := Lib.hid (show cmpS p q r s = odV p q r s ∧ cmpSE p q r s = 0 by unfold cmpS cmpSE bothS; rw [ha, hb]; exact ⟨rfl, rfl⟩)
      go_enter Tryz.func113, Tryz.ntmps113
      go_wp2_with fail
      refine (SIs_any p q _ h1).mono ?_
      rintro e w1 ⟨rfl, hb1⟩
      have c0 := cell_at_below hb1 w.heap.size 0 (.int .i64 p) (by go_simp)
      have c1 := cell_at_below hb1 w.heap.size 1 (.int .i64 q) (by go_simp)
      have d0 := cell_at_below hb1 (w.heap.size + 1) 0 (.int .i64 r) (by go_simp)
      have d1 := cell_at_below hb1 (w.heap.size + 1) 1 (.int .i64 s) (by go_simp)
      go_wp2_with fail
      refine (SIs_any r s _ h2).mono ?_
      rintro e w2 ⟨rfl, hb2⟩
      have c0 := cell_at_below hb2 _ _ _ c0
      have c1 := cell_at_below hb2 _ _ _ c1
      have d0 := cell_at_below hb2 _ _ _ d0
      have d1 := cell_at_below hb2 _ _ _ d1
      go_wp2_with fail
      refine (odder_any p q r s _ h1 h2).mono ?_
      rintro e w3 ⟨rfl, hb3⟩
      go_wp2
      go_ret2
      exact ⟨ret_int2 F.out.1.symm F.out.2.symm, bt hb3 (bt hb2 (bt hb1 (below_alloc2 _ _ _)))⟩
end Go.Proofs.YtcaeihfgdlffkaaGreatRRRRDoor.OdrX

/- An alert, a state's alerts: right? walked (item.RightAlert, look.alerts). -/
namespace Go.Proofs.YtcaeihfgdlffkaaGreatRRRRDoor.AltW
set_option linter.unusedVariables false
set_option linter.unusedSimpArgs false
open Go.RowKit Base SeqM CfM RptC ScoX ShpM ShpT StM StV WinW OdrX

set_option maxHeartbeats 2000000 in
set_option maxRecDepth 100000 in
theorem RightAlert_any (a : Al) (w : World) (hi : AlI a) :
    Calls Tryz.prog 73 #[.agg (alC a).toArray] w fun e w' => e = .returned (.bool (alB a)) ∧ Below w.heap.size w w' := by
  have HI := Lib.hid hi
  have HS := Lib.hid (show alB a = (decide (1 ≤ a.seq ∧ a.seq ≤ 1099511627776 ∧ 1 ≤ a.id ∧ a.id ≤ 1099511627776) && (isS a.p a.q && isS a.lp a.lq) && decide (0 ≤ odV a.p a.q a.lp a.lq)) from rfl)
  obtain ⟨sq, id, p, q, lp, lq⟩ := a
  have HC := Lib.hid (fun W => SCmp_any p q lp lq W hi.2.2.1 hi.2.2.2)
  unfold alC
  dsimp only at HS ⊢
  generalize alB ⟨sq, id, p, q, lp, lq⟩ = R at *
  clear hi
  by_cases h1 : sq < 1
  · have F := Lib.hid (show R = false by rw [HS.out, decide_eq_false (by omega)]; rfl)
    go_enter Tryz.func73, Tryz.ntmps73
    go_wp2_with fail
    go_ret
    exact ⟨by rw [F.out]; rfl, below_a1 _ _⟩
  by_cases h2 : 1099511627776 < sq
  · have F := Lib.hid (show R = false by rw [HS.out, decide_eq_false (by omega)]; rfl)
    go_enter Tryz.func73, Tryz.ntmps73
    go_wp2_with fail
    go_ret
    exact ⟨by rw [F.out]; rfl, below_a1 _ _⟩
  by_cases h3 : id < 1
  · have F := Lib.hid (show R = false by rw [HS.out, decide_eq_false (by omega)]; rfl)
    go_enter Tryz.func73, Tryz.ntmps73
    go_wp2_with fail
    go_ret
    exact ⟨by rw [F.out]; rfl, below_a1 _ _⟩
  by_cases h4 : 1099511627776 < id
  · have F := Lib.hid (show R = false by rw [HS.out, decide_eq_false (by omega)]; rfl)
    go_enter Tryz.func73, Tryz.ntmps73
    go_wp2_with fail
    go_ret
    exact ⟨by rw [F.out]; rfl, below_a1 _ _⟩
  have HR := Lib.hid (show R = ((isS p q && isS lp lq) && decide (0 ≤ odV p q lp lq)) by rw [HS.out, decide_eq_true (by omega)]; simp)
  go_enter Tryz.func73, Tryz.ntmps73
  go_wp2_with fail
  refine (HC.out _).mono ?_
  rintro e w1 ⟨rfl, hb1⟩
  have HB1 := Lib.hid (bt hb1 (below_a1 w _))
  clear hb1
  cases hb : bothS p q lp lq
  · have F := Lib.hid (show R = false by rw [HR.out, show (isS p q && isS lp lq) = false from hb]; rfl)
    have e1 : cmpSE p q lp lq = 130 := by unfold cmpSE; rw [hb]; rfl
    have e2 : cmpS p q lp lq = 0 := by unfold cmpS; rw [hb]; rfl
    rw [e1, e2]
    go_wp2_with fail
    go_ret
    exact ⟨by rw [F.out]; rfl, HB1.out⟩
  · have e1 : cmpSE p q lp lq = 0 := by unfold cmpSE; rw [hb]; rfl
    have e2 : cmpS p q lp lq = odV p q lp lq := by unfold cmpS; rw [hb]; rfl
    rw [e1, e2]
    have HRO := Lib.hid (show R = decide (0 ≤ odV p q lp lq) by rw [HR.out, show (isS p q && isS lp lq) = true from hb]; rfl)
    generalize odV p q lp lq = O at *
    clear e1 e2 hb
    go_wp2_with fail
    go_ret
    exact ⟨by rw [HRO.out]; rfl, HB1.out⟩
def ARel (L : Int) (R : Bool) (l : List Al) (n0 : Int) (w : World) (last n i : Value) (wr : World) : Prop := ∃ (k : Nat) (a : Int), k ≤ l.length ∧ i = .int .i64 k ∧ n = .int .i64 (n0 + k) ∧ last = .int .i64 a ∧
  R = alsB L a (n0 + k) (l.drop k) ∧ Below w.heap.size w wr
theorem als_step {L last n : Int} {l : List Al} {k : Nat} {x : Al} (hx : l[k]? = some x) : alsB L last n (l.drop k) = (decide (x.seq = n + 1) && decide (last < x.id) && decide (x.id ≤ L) && alB x && alsB L x.id (n + 1) (l.drop (k + 1))) := by
  have hk := (List.getElem?_eq_some_iff.1 hx).1
  rw [List.drop_eq_getElem_cons hk, (List.getElem?_eq_some_iff.1 hx).2, alsB]
set_option maxHeartbeats 4000000 in
set_option maxRecDepth 100000 in
theorem alerts_any (s : St) (wv fv av : Value) (f : Int) (w : World) (h : Seq 6 alC w 0 w.heap.size av s.alerts) (hi : ∀ x ∈ s.alerts, AlI x) (hv : (∃ a n c, wv = .slice a n c) ∧ ∃ a n c, fv = .slice a n c) (hc : 1 ≤ s.cf.c9 ∧ s.cf.c9 ≤ 64) (hn : cnt s.count) (hq : I64 s.seq) :
    Calls Tryz.prog 41 #[.agg (lkC s wv fv av f).toArray] w fun e w' => e = .returned (.bool (alertsB s)) ∧ Below w.heap.size w w' := by
  have HI := Lib.hid hi
  obtain ⟨A, cap, rfl, hc1, hc2, hr, _⟩ := h
  unfold maxLen at hc2
  have HS := Lib.hid hr
  obtain ⟨⟨a1, n1, c1', rfl⟩, a2, n2, c2', rfl⟩ := hv
  obtain ⟨⟨c0, c1, c2, c3, c4, c5, c6, c7, c8, c9, c10⟩, count, last, seq, win, forest, alerts⟩ := s
  unfold lkC stC CfM.cfC alertsB
  unfold cnt at hn
  unfold I64 at hq
  dsimp only [List.cons_append, List.nil_append] at HS HI hc hn hq hc1 ⊢
  obtain ⟨n, hn'⟩ : ∃ n, alerts.length = n := ⟨_, rfl⟩
  have HN := Lib.hid hn'
  rw [hn'] at hc1 ⊢
  clear hr hi hn'
  obtain ⟨W, eW⟩ : ∃ W, w.alloc (.cells #[.int .i64 c0, .int .i64 c1, .int .i64 c2, .int .i64 c3, .int .i64 c4, .int .i64 c5, .int .i64 c6, .int .i64 c7, .int .i64 c8, .int .i64 c9, .int .i64 c10, .int .i64 count, .int .i64 last, .int .i64 seq, .slice a1 n1 c1', .slice a2 n2 c2', .slice A n cap, .int .i64 f] 84) = W := ⟨_, rfl⟩
  have HB := Lib.hid (show Below w.heap.size w W by rw [← eW]; exact below_a1 _ _)
  have HCS := Lib.hid (show ∀ W' : World, Below W.heap.size W W' → (W'.cell? ⟨w.heap.size, 9, none⟩ = some (.int .i64 c9) ∧ W'.cell? ⟨w.heap.size, 11, none⟩ = some (.int .i64 count) ∧ W'.cell? ⟨w.heap.size, 12, none⟩ = some (.int .i64 last) ∧ W'.cell? ⟨w.heap.size, 13, none⟩ = some (.int .i64 seq) ∧ W'.cell? ⟨w.heap.size, 16, none⟩ = some (.slice A n cap)) by
    intro W' hb
    subst eW
    refine ⟨keepA hb ?_, keepA hb ?_, keepA hb ?_, keepA hb ?_, keepA hb ?_⟩ <;> go_simp)
  obtain ⟨d9, d11, d12, d13, d16⟩ := HCS.out W (Below.refl _ _)
  by_cases q1 : seq < 0
  · rw [decide_eq_false (show ¬ (0 ≤ seq ∧ seq ≤ count ∧ (n : Int) ≤ min seq c9) by omega), Bool.false_and]
    go_enter Tryz.func41, Tryz.ntmps41
    go_wp2_with fail
    go_ret
    exact ⟨rfl, HB.out⟩
  by_cases q2 : count < seq
  · rw [decide_eq_false (show ¬ (0 ≤ seq ∧ seq ≤ count ∧ (n : Int) ≤ min seq c9) by omega), Bool.false_and]
    go_enter Tryz.func41, Tryz.ntmps41
    go_wp2_with fail
    go_ret
    exact ⟨rfl, HB.out⟩
  obtain ⟨M, hM⟩ : ∃ M, min seq c9 = M := ⟨_, rfl⟩
  have hMb : 0 ≤ M ∧ M ≤ 64 := by omega
  rw [hM]
  by_cases q3 : M < (n : Int)
  · rw [decide_eq_false (show ¬ (0 ≤ seq ∧ seq ≤ count ∧ (n : Int) ≤ M) by omega), Bool.false_and]
    go_enter Tryz.func41, Tryz.ntmps41
    go_wp2_with fail
    go_ret
    exact ⟨rfl, HB.out⟩
  have HF := Lib.hid (show (decide (0 ≤ seq ∧ seq ≤ count ∧ (n : Int) ≤ M) && alsB last 0 (seq - (n : Int)) alerts) = alsB last 0 (seq - (n : Int)) alerts by rw [decide_eq_true (by omega), Bool.true_and])
  rw [HF.out]
  have hwr : IntKind.i64.wrap (seq - (n : Int)) = seq - (n : Int) := IntWalk.i64_in _ (by omega)
  obtain ⟨R, hR⟩ : ∃ R, alsB last 0 (seq - (n : Int)) alerts = R := ⟨_, rfl⟩
  have HR := Lib.hid hR
  rw [hR]
  clear hR HF
  go_enter Tryz.func41, Tryz.ntmps41
  go_wp2_with fail
  go_quiet (fail)
  go_wp2_with fail
  generalize hN0 : seq - (n : Int) = N0 at *
  have hb0 : 0 ≤ N0 ∧ N0 ≤ 1099511627776 := by omega
  go_loopw [3, 4, 47] (fun l m i wr => ARel last R alerts N0 W l m i wr) (fun _ _ i _ => n - (intOf i).toNat)
  case atStart => exact ⟨0, 0, Nat.zero_le _, rfl, congrArg (Value.int IntKind.i64) (by omega), rfl, by simpa using HR.out.symm, below_drewN (Below.refl _ W) nq⟩
  case round =>
    obtain ⟨k, a, hk, rfl, rfl, rfl, hR, hbr⟩ := hrel
    rw [HN.out] at hk
    have HBR := Lib.hid hbr
    have HRR := Lib.hid hR
    clear hR
    obtain ⟨e9, e11, e12, e13, e16⟩ := HCS.out wr hbr
    clear d9 d11 d12 d13 d16
    by_cases hlt : k < n
    · obtain ⟨ad, x, rfl, _, hbk, hx, hcs⟩ := rdk alC_len HS.out (i := k) (by rw [HN.out]; exact hlt)
      have HST := Lib.hid (HRR.out.trans (als_step hx))
      have HRS := Lib.hid (fun W' => RightAlert_any x W' (HI.out x (List.mem_of_getElem? hx)))
      obtain ⟨sq, id, p, q, lp, lq⟩ := x
      have hbw := bt hbr HB.out
      have g0 : wr.cell? (ad.add (k * 6)) = some (.int .i64 sq) := (hbw.cell (by rw [Base.add_block]; exact hbk)).trans (hcs 0 _ rfl)
      have gf : ∀ j u, (alC ⟨sq, id, p, q, lp, lq⟩)[j]? = some u → j ≠ 0 → wr.cell? ⟨(ad.add (k * 6)).block, (ad.add (k * 6)).off + j, none⟩ = some u := fun j u hu hj => by rw [add_off _ _ _ hj]; exact (hbw.cell (by rw [Base.add_block]; exact hbk)).trans (hcs j u hu)
      have g1 := gf 1 _ rfl (by decide)
      have g2 := gf 2 _ rfl (by decide)
      have g3 := gf 3 _ rfl (by decide)
      have g4 := gf 4 _ rfl (by decide)
      have g5 := gf 5 _ rfl (by decide)
      unfold alC at HRS
      dsimp only at g1 g2 g3 g4 g5 HST HRS
      have hw1 : IntKind.i64.wrap (N0 + (k : Int) + 1) = N0 + (k : Int) + 1 := IntWalk.i64_in _ (by omega)
      have hk2 : N0 + ((k + 1 : Nat) : Int) = N0 + (k : Int) + 1 := by omega
      have hzs : w.heap.size < wr.heap.size := World.block_lt_of_cell? _ _ e9
      have hk3 : k + 1 ≤ n := hlt
      have hk4 : k + 1 ≤ 65 := by omega
      clear gf hcs hx hbr hN0 hbw hc hn hq q1 q2 q3 hM hMb hwr eW hb0 hk e9 e11 e13 e16 hc1 hc2 hbk
      by_cases h0 : sq = N0 + (k : Int) + 1
      · subst h0
        by_cases h1 : a < id
        · by_cases h2 : id ≤ last
          · go_wp2_with fail
            refine (HRS.out _).mono ?_
            rintro e w5 ⟨rfl, hb5⟩
            have b0 : w5.cell? ⟨wr.heap.size, 1, none⟩ = some (.int .i64 id) := keepA hb5 (by go_simp)
            have HB5 := Lib.hid (bt hb5 (below_a1 wr _))
            have HB6 := Lib.hid (show Below W.heap.size W w5 from HBR.out.trans (HB5.out.mono HBR.out.size))
            clear hb5 g0 g1 g2 g3 g4 g5
            cases hsb : alB ⟨N0 + (k : Int) + 1, id, p, q, lp, lq⟩
            · have F := Lib.hid (show R = false by rw [HST.out, hsb]; simp)
              clear hsb
              go_wp2_with fail
              go_ret
              exact ⟨by rw [F.out]; rfl, bt HB6.out HB.out⟩
            · have F := Lib.hid (show R = alsB last id (N0 + k + 1) (alerts.drop (k + 1)) by rw [HST.out, hsb, decide_eq_true h1, decide_eq_true h2]; simp)
              clear hsb
              go_wp2_with fail
              exact ⟨⟨k + 1, id, by rw [HN.out]; omega, by go_num, congrArg (Value.int IntKind.i64) (by omega), rfl, by rw [hk2]; exact F.out, HB6.out⟩, by simp [intOf]; omega⟩
          · have F := Lib.hid (show R = false by rw [HST.out]; rw [decide_eq_false h2]; simp)
            go_wp2_with fail
            go_ret
            exact ⟨by rw [F.out]; rfl, (bt (HBR.out.trans ((below_a1 wr _).mono HBR.out.size)) HB.out)⟩
        · have F := Lib.hid (show R = false by rw [HST.out]; rw [decide_eq_false h1]; simp)
          go_wp2_with fail
          go_ret
          exact ⟨by rw [F.out]; rfl, (bt (HBR.out.trans ((below_a1 wr _).mono HBR.out.size)) HB.out)⟩
      · have h0b : (sq != N0 + (k : Int) + 1) = true := by rw [bne_iff_ne]; exact h0
        have F := Lib.hid (show R = false by rw [HST.out]; rw [decide_eq_false h0]; simp)
        go_wp2_with fail
        go_ret
        exact ⟨by rw [F.out]; rfl, (bt (HBR.out.trans ((below_a1 wr _).mono HBR.out.size)) HB.out)⟩
    · have hkn : k = n := by omega
      have F := Lib.hid (show R = true by rw [HRR.out, List.drop_eq_nil_of_le (by rw [HN.out]; omega), alsB])
      clear hbr hN0
      go_wp2_with fail
      go_ret
      exact ⟨by rw [F.out]; rfl, bt HBR.out HB.out⟩
end Go.Proofs.YtcaeihfgdlffkaaGreatRRRRDoor.AltW
