/- shape.Route. -/
import Derived.Test.YtmmgfelifmdnbaaDoorRouM
import Derived.StillTailTactics
namespace Go.Proofs.YtmmgfelifmdnbaaDoor.RouW
set_option linter.unusedVariables false
open Go.BigFrame Go.RowKit Go.Shelf Go.WideElems Base SeqM ShpM ShpV ShpW ShpD ShpT ShpI ShpJ ShpU ItrD ItrW ItrK ItrF ItrG LefM LefW PruW RouM

/-- the vectors so far: right ones, counted at the leaves -/
def R1 (dim : Int) (n : Nat) (nv : Value) (b : B) (l : List (List Int)) (w : World) (pb : Nat) (i : Value) (wr : World) : Prop :=
  ∃ k : Nat, k ≤ l.length ∧ i = .int .i64 k ∧ (l.take k).all (vecB · dim) = true ∧ RowI wr pb (outL b n (l.take k)) ∧ Below w.heap.size w wr ∧ Boxed2 wr w.heap.size dim nv
def R2 (dim : Int) (n : Nat) (nv : Value) (b : B) (l : List (List Int)) (w : World) (pb : Nat) (i : Value) (wr : World) : Prop :=
  ∃ k : Nat, k ≤ n ∧ i = .int .i64 ((k : Int) - 1) ∧ RowI wr pb (mixL b n l k) ∧ Below w.heap.size w wr ∧ Boxed2 wr w.heap.size dim nv
theorem seq_rowI {W : World} {pb n lo : Nat} {l : List Int} (h : RowI W pb l) (hn : l.length = n) (hlo : lo ≤ pb) (hm : n ≤ 1000000) : Seq 1 inC W lo W.heap.size (.slice (some ⟨pb, 0, none⟩) n n) l := by
  subst hn
  refine (Seq.of_own (base := pb) (e := 3) ⟨by simp [flat_inC], .inr ⟨pb, l.length, _, rfl, Nat.le_refl _, h, Nat.le_refl _, by unfold maxLen; omega, by simp, by rw [flat_inC, Nat.mul_one]; exact List.take_of_length_le (by simp)⟩⟩).more hlo (Nat.le_refl _)
/-- what comes of it: the counts, or that a vector is none -/
def RtPost (n0 : Nat) (L : List Int) (ok : Bool) (e : Ending) (w' : World) : Prop := if ok = true then ∃ v, e = .returned (.tuple #[v, .int .i64 0]) ∧ Seq 1 inC w' n0 w'.heap.size v L else e = .returned (.tuple #[.slice none 0 0, .int .i64 80])
theorem rt_no {n0 : Nat} {L : List Int} {ok : Bool} {w' : World} (h : ok = false) : RtPost n0 L ok (.returned (.tuple #[.slice none 0 0, .int .i64 80])) w' := by
  unfold RtPost; rw [if_neg (by rw [h]; decide)]
theorem rt_yes {n0 : Nat} {L : List Int} {ok : Bool} {w' : World} {v : Value} (h : ok = true) (hs : Seq 1 inC w' n0 w'.heap.size v L) : RtPost n0 L ok (.returned (.tuple #[v, .int .i64 0])) w' := by
  unfold RtPost; rw [if_pos h]; exact ⟨v, rfl, hs⟩
set_option maxHeartbeats 2000000 in
set_option maxRecDepth 100000 in
theorem Route_in (nv lv : Value) (ls : List Nd) (l : List (List Int)) (dim : Int) (lo lo' : Nat) (w : World) (h : Nds w lo w.heap.size nv ls) (h' : Vecs w lo' w.heap.size lv l) (hT : IsT dim ls) (b : B) (hat : At ls 0 b) (hct : b.count = ls.length) (hok : b.ok dim) (hh : b.high ≤ 6) :
    Calls Tryd.prog 19 #[.agg #[.int .i64 dim, nv], lv] w fun e w' => RtPost w.heap.size (thruL b ls.length l) (l.all (vecB · dim)) e w' ∧ Below w.heap.size w w' := by
  have HS := Lib.hid h
  have HVS := Lib.hid h'
  have HI := Lib.hid (fun (W : World) (hb : Below w.heap.size w W) => TIs_any nv ls dim lo W (h.up hb))
  have HL := Lib.hid (fun (W : World) (xv : Value) (x : List Int) (hb : Below w.heap.size w W) (hx : Seq 1 inC W lo' W.heap.size xv x) (hv : vecB x dim = true) => Leaf_in nv xv ls x dim lo lo' W (h.up hb) hx hT b hat hok hh hv)
  have HLN := Lib.hid (fun (W : World) (xv : Value) (x : List Int) (hb : Below w.heap.size w W) (hx : Seq 1 inC W lo' W.heap.size xv x) (hv : vecB x dim = false) => Leaf_no nv xv ls x dim lo lo' W (h.up hb) hx hT hv)
  obtain ⟨A, cap, rfl, hc1, hc2, _⟩ := h.form
  obtain ⟨LA, lcap, rfl, lc1, lc2, _⟩ := h'.form
  obtain ⟨n, hn⟩ : ∃ n, ls.length = n := ⟨_, rfl⟩
  obtain ⟨m, hm⟩ : ∃ m, l.length = m := ⟨_, rfl⟩
  have hl1 := (isT_len hT).1
  have hl2 := (isT_len hT).2
  rw [isTB_true.2 hT] at HI
  rw [hn] at HI HL HLN HS hc1 hl1 hl2 hct ⊢
  rw [hm] at HVS lc1 ⊢
  have HAT := Lib.hid hat
  have HOK := Lib.hid hok
  clear hat hok h h' hh
  go_enter Tryd.func19, Tryd.ntmps19
  go_wp2_with fail
  refine (HI.out _ (below_a1 _ _)).mono ?_
  rintro e w1 ⟨rfl, hb1⟩
  have HB1 := Lib.hid (bt hb1 (below_a1 w _))
  have hbx : Boxed2 w1 w.heap.size dim (.slice A n cap) := (hb1.block _ (by simp)).trans (heap_alloc_new w _)
  have HX1 := Lib.hid hbx
  obtain ⟨t0, t1⟩ := hbx.cells
  have lz := (Array.getElem?_eq_some_iff.1 hbx).1
  clear hb1 hbx
  go_wp2_with (at_make; refine mkW _ rfl (.tmp 19) (.tmp 19) _ rfl eltI n rfl rfl (by omega) ?_; intro w2 hrow hb2)
  obtain ⟨pb, hpb⟩ : ∃ pb, w1.heap.size = pb := ⟨_, rfl⟩
  rw [hpb] at hrow ⊢
  have H0 := Lib.hid (show R1 dim n (.slice A n cap) b l w pb (.int .i64 0) w2 from ⟨0, Nat.zero_le _, rfl, by simp, by rw [List.take_zero, ← out_nil]; exact hrow, HB1.out.trans (hb2.mono HB1.out.size), (hb2.block _ lz).trans HX1.out⟩)
  have hpw : w.heap.size < pb := by omega
  clear hb2 hrow t0 t1
  go_wp2_with fail
  go_loopw [23] (fun i wr => R1 dim n (.slice A n cap) b l w pb i wr) (fun i _ => m - (intOf i).toNat)
  case atStart => exact H0.out
  case round =>
    obtain ⟨k, hk, rfl, hall, hrow, hb, hbx⟩ := hrel
    rw [hm] at hk
    have HROW := Lib.hid hrow
    have HALL := Lib.hid hall
    have HB := Lib.hid hb
    have HX := Lib.hid hbx
    obtain ⟨t0, t1⟩ := hbx.cells
    have lz' := (Array.getElem?_eq_some_iff.1 hrow).1
    by_cases hkm : k = m
    · subst hkm
      have HM0 := Lib.hid (show R2 dim n (.slice A n cap) b l w pb (.int .i64 ((n : Int) - 1)) wr from ⟨n, Nat.le_refl _, rfl, by rw [← mix_out]; rw [List.take_of_length_le (by omega)] at hrow; exact hrow, hb, hbx⟩)
      have HALL' := Lib.hid (show l.all (vecB · dim) = true by rw [List.take_of_length_le (by omega)] at hall; exact hall)
      clear hrow hall hb hbx
      go_wp2_with fail
      go_loopw [12] (fun i wr => R2 dim n (.slice A n cap) b l w pb i wr) (fun i _ => (intOf i + 1).toNat)
      case atStart => exact HM0.out
      case round =>
        clear t0 t1 lz'
        obtain ⟨k, hk, rfl, hrow, hb, hbx⟩ := hrel
        have HROW := Lib.hid hrow
        have HB := Lib.hid hb
        have HX := Lib.hid hbx
        obtain ⟨t0, t1⟩ := hbx.cells
        have lz' := (Array.getElem?_eq_some_iff.1 hrow).1
        have lz2 := (Array.getElem?_eq_some_iff.1 hbx).1
        by_cases hk0 : k = 0
        · subst hk0
          rw [show (((0 : Nat) : Int) - 1) = -1 from rfl]
          have HSQ := Lib.hid (show Seq 1 inC _ w.heap.size _ (.slice (some ⟨pb, 0, none⟩) n n) (thruL b n l) from seq_rowI (by rw [← mix_thru]; exact hrow) (by unfold thruL; simp) (by omega) (by omega))
          clear hrow hb hbx
          go_wp2_with fail
          go_ret2
          exact ⟨rt_yes HALL'.out HSQ.out, HB.out⟩
        · obtain ⟨i, rfl⟩ : ∃ i, k = i + 1 := ⟨k - 1, by omega⟩
          rw [show ((i + 1 : Nat) : Int) - 1 = (i : Int) by omega]
          obtain ⟨b', hat', hok', _, _, hle'⟩ := sub_at (j := i) HAT.out HOK.out (Nat.zero_le _) (by omega)
          cases b' with
          | leaf sz =>
            have h0 := at_leaf.1 hat'
            obtain ⟨ad, cv, e1, hbk, d0, d1, d2, d3, d4, hcv⟩ := (HS.out.below hb).get h0
            subst e1
            obtain ⟨AC, cc, rfl, _, _, _, _⟩ := id hcv
            dsimp only [List.length_nil] at d0 d1 d2 d3 d4
            have HN := Lib.hid (mix_leaf n l HAT.out (by omega) hat')
            have l1 : ad.block < _ := Nat.lt_of_lt_of_le hbk hb.size
            clear hrow hb hbx hcv hat' hok'
            go_wp2_with fail
            refine ⟨⟨i, by omega, rfl, by rw [← HN.out]; exact ((below_a1 _ _).block _ lz').trans HROW.out, HB.out.alloc HB.out.size _, ((below_a1 _ _).block _ lz2).trans HX.out⟩, by simp [intOf] <;> omega⟩
          | fork c a p q =>
            obtain ⟨h0, hp, hq⟩ := at_fork.1 hat'
            obtain ⟨ad, cv, e1, hbk, d0, d1, d2, d3, d4, hcv⟩ := (HS.out.below hb).get h0
            subst e1
            obtain ⟨AC, cc, rfl, _, _, _, _⟩ := id hcv
            dsimp only at d0 d1 d2 d3 d4
            simp only [B.count] at hle'
            have cq := count_pos q
            have cp := count_pos p
            have HN := Lib.hid (mix_fork n l HAT.out (by omega) hat' ((thru b l (i + 1) : Int) + (thru b l (i + 1 + p.count) : Int)) rfl)
            have hbd : (thru b l (i + 1) : Int) + (thru b l (i + 1 + p.count) : Int) ≤ l.length := by
              have := thru_fork l HAT.out (show i < b.count by omega) hat'
              have h2 := thru_le b l i
              omega
            have l1 : ad.block < _ := Nat.lt_of_lt_of_le hbk hb.size
            have r1 := hrow.cell (i := i + 1) (z := (thru b l (i + 1) : Int)) (by unfold mixL; rw [range_get _ (by omega), if_pos (by omega)])
            have r2 := hrow.cell (i := i + 1 + p.count) (z := (thru b l (i + 1 + p.count) : Int)) (by unfold mixL; rw [range_get _ (by omega), if_pos (by omega)])
            obtain ⟨T1, hT1⟩ : ∃ T, thru b l (i + 1) = T := ⟨_, rfl⟩
            obtain ⟨T2, hT2⟩ : ∃ T, thru b l (i + 1 + p.count) = T := ⟨_, rfl⟩
            obtain ⟨pc, hpc⟩ : ∃ pc, p.count = pc := ⟨_, rfl⟩
            rw [hT1, hT2] at HN hbd
            rw [hT1] at r1
            rw [hT2] at r2
            rw [hpc] at r2 d3 hle'
            obtain ⟨Ln, hLn⟩ : ∃ Ln, i + 1 = Ln := ⟨_, rfl⟩
            obtain ⟨Rn, hRn⟩ : ∃ Rn, i + 1 + pc = Rn := ⟨_, rfl⟩
            have bL : Ln < n := by omega
            have bR : Rn < n := by omega
            have bI : i < n := by omega
            rw [hRn] at r2 d3
            rw [hLn] at r1 d2
            obtain ⟨cn, hcn⟩ : ∃ cn, c.length = cn := ⟨_, rfl⟩
            rw [hcn] at d0
            have hf := fun i => hrow.frozen (i := i)
            have r0 := hrow.cell (i := i) (z := (outN b l i : Int)) (by unfold mixL; rw [range_get _ (by omega), if_neg (by omega)])
            clear hrow hb hbx hcv hat' hok' hp hq
            have hwS : IntKind.i64.wrap ((T1 : Int) + (T2 : Int)) = (T1 : Int) + (T2 : Int) := IntWalk.i64_in _ (by omega)
            go_wp2_with fail
            have HB5 := below_a1 wr (.cells #[.slice AC cn cc, .int .i64 a, .int .i64 (Ln : Int), .int .i64 (Rn : Int), .int .i64 (p.size + q.size)] 39)
            have bN := heap_alloc_new wr (.cells #[.slice AC cn cc, .int .i64 a, .int .i64 (Ln : Int), .int .i64 (Rn : Int), .int .i64 (p.size + q.size)] 39)
            obtain ⟨W5, hW5⟩ : ∃ W5, wr.alloc (.cells #[.slice AC cn cc, .int .i64 a, .int .i64 (Ln : Int), .int .i64 (Rn : Int), .int .i64 (p.size + q.size)] 39) = W5 := ⟨_, rfl⟩
            rw [hW5] at HB5 bN ⊢
            have m2 : W5.cell? ⟨wr.heap.size, 2, none⟩ = some (.int .i64 (Ln : Int)) := cell_heap bN rfl
            have m3 : W5.cell? ⟨wr.heap.size, 3, none⟩ = some (.int .i64 (Rn : Int)) := cell_heap bN rfl
            have l5 : wr.heap.size < W5.heap.size := by rw [← hW5]; simp
            have hrow5 : RowI W5 pb (mixL b n l (i + 1)) := (HB5.block _ lz').trans HROW.out
            have HR5 := Lib.hid hrow5
            have HB5 := Lib.hid HB5
            replace r1 : W5.cell? ⟨pb, Ln, none⟩ = _ := keepA HB5.out r1
            replace r2 : W5.cell? ⟨pb, Rn, none⟩ = _ := keepA HB5.out r2
            replace r0 : W5.cell? ⟨pb, i, none⟩ = _ := keepA HB5.out r0
            replace hf := fun i => hrow5.frozen (i := i)
            clear hrow5 hW5 bN d0 d1 d2 d3 d4 t0 t1
            go_still_tail 14, (by kernel_rfl)
            go_wp2_with fail
            refine ⟨⟨i, by omega, rfl, by rw [← HN.out]; exact HR5.out.set _, ?_, ?_⟩, by simp [intOf] <;> omega⟩
            · exact ((HB.out.trans (HB5.out.mono HB.out.size)).setCell (p := ⟨pb, i, none⟩) (by show w.heap.size ≤ pb; omega) _).drew
            · exact (Below.heap_setCell W5 _ _ _ (by show w.heap.size ≠ pb; omega)).trans ((HB5.out.block _ lz2).trans HX.out)
    · obtain ⟨x, hx⟩ : ∃ x, l[k]? = some x := ⟨_, List.getElem?_eq_getElem (by omega)⟩
      obtain ⟨lad, xv, e1, lbk, c0, hxv⟩ := (HVS.out.below hb).get hx
      subst e1
      have HXV := Lib.hid (hxv.more (Nat.le_refl _) hb.size)
      have HKX := Lib.hid hx
      have htk := take_next hx
      have HTK := Lib.hid htk
      clear hrow hall hb hbx hxv hx htk
      obtain ⟨XA, xn, xc, rfl⟩ : ∃ XA xn xc, xv = .slice XA xn xc := by obtain ⟨A, c, e, _⟩ := HXV.out; exact ⟨_, _, _, e⟩
      cases hv : vecB x dim with
      | false =>
        have HV := Lib.hid hv
        go_wp2_with fail
        refine (HLN.out _ _ _ HB.out HXV.out hv).mono ?_
        rintro e w3 ⟨rfl, hb3⟩
        go_wp2_with fail
        go_ret2
        exact ⟨rt_no (all_no (k := k + 1) (by rw [all_next HKX.out, HALL.out, HV.out]; rfl)), bt hb3 HB.out⟩
      | true =>
        have HV := Lib.hid hv
        have hlf := leaf_range b 0 x
        go_wp2_with fail
        refine (HL.out _ _ _ HB.out HXV.out hv).mono ?_
        rintro e w3 ⟨⟨dp, rfl⟩, hb3⟩
        have hrow3 : RowI w3 pb (outL b n (l.take k)) := (hb3.block _ lz').trans HROW.out
        have hci := hrow3.cell (range_get (fun j => (outN b (l.take k) j : Int)) (show leafOf b 0 x < n by omega))
        have hfi := hrow3.frozen (i := leafOf b 0 x)
        have hole := out_le b (l.take k) (leafOf b 0 x)
        have HB3 := Lib.hid (bt hb3 HB.out)
        have HX3 := Lib.hid ((hb3.block _ (Array.getElem?_eq_some_iff.1 HX.out).1).trans HX.out)
        have hlk : (l.take k).length ≤ k := by rw [List.length_take]; omega
        have HR3 := Lib.hid hrow3
        clear hb3 hrow3
        go_wp2_with fail
        refine ⟨⟨k + 1, by omega, by go_num, by rw [all_next HKX.out, HALL.out, HV.out]; rfl, ?_, HB3.out.setCell (p := ⟨pb, leafOf b 0 x, none⟩) (by show w.heap.size ≤ pb; omega) _, (Below.heap_setCell _ _ _ _ (by show w.heap.size ≠ pb; omega)).trans HX3.out⟩, by simp [intOf]; omega⟩
        rw [HTK.out, ← out_set]
        exact HR3.out.set _
set_option maxRecDepth 100000 in
theorem Route_no (nv lv : Value) (ls : List Nd) (dim : Int) (lo : Nat) (w : World) (h : Nds w lo w.heap.size nv ls) (hT : ¬ IsT dim ls) :
    Calls Tryd.prog 19 #[.agg #[.int .i64 dim, nv], lv] w fun e w' => e = .returned (.tuple #[.slice none 0 0, .int .i64 100]) ∧ Below w.heap.size w w' := by
  have HI := Lib.hid (fun (W : World) (hb : Below w.heap.size w W) => TIs_any nv ls dim lo W (h.up hb))
  obtain ⟨A, cap, rfl, hc1, hc2, _⟩ := h.form
  obtain ⟨n, hn⟩ : ∃ n, ls.length = n := ⟨_, rfl⟩
  rw [isTB_false.2 hT] at HI
  rw [hn] at HI hc1 ⊢
  clear h
  go_enter Tryd.func19, Tryd.ntmps19
  go_wp2_with fail
  refine (HI.out _ (below_a1 _ _)).mono ?_
  rintro e w1 ⟨rfl, hb1⟩
  have HB1 := Lib.hid (bt hb1 (below_a1 w _))
  clear hb1
  go_wp2_with fail
  go_ret2
  exact ⟨rfl, HB1.out⟩
end Go.Proofs.YtmmgfelifmdnbaaDoor.RouW
