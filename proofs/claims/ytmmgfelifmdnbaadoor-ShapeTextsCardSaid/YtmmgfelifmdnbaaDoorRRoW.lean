/- copseref11.Route. -/
import Derived.Test.YtmmgfelifmdnbaaDoorAbvW
namespace Go.Proofs.YtmmgfelifmdnbaaDoor.RRoW
set_option linter.unusedVariables false
open Go.BigFrame Go.RowKit Go.Shelf Go.WideElems Base SeqM ShpM ShpV ShpW ShpD ShpT ShpI ShpJ ShpR ShpU ItrD ItrW ItrK ItrF ItrG LefM PruW RouM RouW UpM UpW AbvW

theorem count_nodup (a : Nat) : ∀ l : List Nat, l.Nodup → l.count a = if a ∈ l then 1 else 0
  | [], _ => by simp
  | b :: r, h => by
    obtain ⟨h1, h2⟩ := List.nodup_cons.1 h
    rw [List.count_cons, count_nodup a r h2]
    by_cases e : b = a
    · subst e
      simp [h1]
    · by_cases hm : a ∈ r
      · simp [hm, e]
      · simp [hm, e]; omega
noncomputable def partL (b : B) (n : Nat) (L : List (List Int)) (ways : List Nat) : List Int := (List.range n).map fun j => (thru b L j : Int) + (ways.count j : Int)
theorem part_nil (b : B) (n : Nat) (L : List (List Int)) : partL b n L [] = thruL b n L := by unfold partL thruL; simp
theorem part_all (b : B) (n : Nat) (L : List (List Int)) (x : List Int) : partL b n L (wayOf b 0 x) = thruL b n (L ++ [x]) := by
  unfold partL thruL
  refine List.map_congr_left fun j _ => ?_
  rw [thru_app, count_nodup j _ (way_nodup b 0 x)]
  split <;> simp
theorem part_set (b : B) (n : Nat) (L : List (List Int)) (ways : List Nat) (y : Nat) (z : Int) (hz : z = (thru b L y : Int) + (ways.count y : Int) + 1) : (partL b n L ways).set y z = partL b n L (ways ++ [y]) := by
  unfold partL
  refine range_set _ _ (fun k _ hne => ?_) _ (fun _ => ?_)
  · rw [List.count_append, List.count_singleton]
    rw [if_neg (by simp; omega)]; simp
  · rw [List.count_append, List.count_singleton, hz]
    simp; omega
/-- nothing but one block has turned -/
def Only (pb : Nat) (W W' : World) : Prop := W'.heap.size = W.heap.size ∧ ∀ k, k ≠ pb → W'.heap[k]? = W.heap[k]?
theorem Only.cell {pb : Nat} {W W' : World} (h : Only pb W W') {a : Addr} (ha : a.block ≠ pb) {v : Value} (hc : W.cell? a = some v) : W'.cell? a = some v := (World.cell?_of_block (h.2 _ ha)).trans hc
theorem Only.set {pb : Nat} {W W' : World} (h : Only pb W W') (o : Nat) (v : Value) : Only pb W (W'.setCell ⟨pb, o, none⟩ v) :=
  ⟨by rw [← h.1]; simp, fun k hk => (Below.heap_setCell _ _ _ k hk).trans (h.2 k hk)⟩
def R3 (dim : Int) (n : Nat) (nv : Value) (b : B) (l : List (List Int)) (w : World) (pb : Nat) (i : Value) (wr : World) : Prop :=
  ∃ k : Nat, k ≤ l.length ∧ i = .int .i64 k ∧ (l.take k).all (vecB · dim) = true ∧ RowI wr pb (thruL b n (l.take k)) ∧ Below w.heap.size w wr ∧ Boxed2 wr w.heap.size dim nv
def R4 (n : Nat) (b : B) (L : List (List Int)) (ways : List Nat) (w w3 : World) (pb : Nat) (i : Value) (wr : World) : Prop :=
  ∃ k : Nat, k ≤ ways.length ∧ i = .int .i64 k ∧ RowI wr pb (partL b n L (ways.take k)) ∧ Below w.heap.size w wr ∧ Only pb w3 wr
set_option maxHeartbeats 2000000 in
set_option maxRecDepth 100000 in
theorem RRoute_in (nv lv : Value) (ls : List Nd) (l : List (List Int)) (dim : Int) (lo lo' : Nat) (w : World) (h : Nds w lo w.heap.size nv ls) (h' : Vecs w lo' w.heap.size lv l) (hT : IsT dim ls) (b : B) (hat : At ls 0 b) (hct : b.count = ls.length) :
    Calls Tryd.prog 20 #[.agg #[.int .i64 dim, nv], lv] w fun e w' => RtPost w.heap.size (thruL b ls.length l) (l.all (vecB · dim)) e w' ∧ Below w.heap.size w w' := by
  have HVS := Lib.hid h'
  have HI := Lib.hid (fun (W : World) (hb : Below w.heap.size w W) => RTIs_any nv ls dim lo W (h.up hb) (by have := (isT_len hT).2; omega))
  have HV := Lib.hid (fun (W : World) (xv : Value) (x : List Int) (hx : Seq 1 inC W lo' W.heap.size xv x) => RIs_any xv x dim lo' W.heap.size W hx)
  have HA := Lib.hid (fun (W : World) (xv : Value) (x : List Int) (hb : Below w.heap.size w W) (hx : Seq 1 inC W lo' W.heap.size xv x) => Above_in nv xv ls x dim lo lo' W (h.up hb) hx hT b hat)
  obtain ⟨A, cap, rfl, hc1, hc2, _⟩ := h.form
  obtain ⟨LA, lcap, rfl, lc1, lc2, _⟩ := h'.form
  obtain ⟨n, hn⟩ : ∃ n, ls.length = n := ⟨_, rfl⟩
  obtain ⟨m, hm⟩ : ∃ m, l.length = m := ⟨_, rfl⟩
  have hl1 := (isT_len hT).1
  have hl2 := (isT_len hT).2
  rw [isTB_true.2 hT] at HI
  rw [hn] at HI HA hc1 hl1 hl2 hct ⊢
  rw [hm] at HVS lc1 ⊢
  clear hat h h' hT
  go_enter Tryd.func20, Tryd.ntmps20
  go_wp2_with fail
  refine (HI.out _ (below_a1 _ _)).mono ?_
  rintro e w1 ⟨rfl, hb1⟩
  have HB1 := Lib.hid (bt hb1 (below_a1 w _))
  have hbx : Boxed2 w1 w.heap.size dim (.slice A n cap) := (hb1.block _ (by simp)).trans (heap_alloc_new w _)
  have HX1 := Lib.hid hbx
  obtain ⟨t0, t1⟩ := hbx.cells
  have lz := (Array.getElem?_eq_some_iff.1 hbx).1
  clear hb1 hbx
  go_wp2_with (at_make; refine mkW _ rfl (.tmp 15) (.tmp 15) _ rfl eltI n rfl rfl (by omega) ?_; intro w2 hrow hb2)
  obtain ⟨pb, hpb⟩ : ∃ pb, w1.heap.size = pb := ⟨_, rfl⟩
  rw [hpb] at hrow ⊢
  have H0 := Lib.hid (show R3 dim n (.slice A n cap) b l w pb (.int .i64 0) w2 from ⟨0, Nat.zero_le _, rfl, by simp, by rw [List.take_zero, ← thru_nil]; exact hrow, HB1.out.trans (hb2.mono HB1.out.size), (hb2.block _ lz).trans HX1.out⟩)
  have hpw : w.heap.size < pb := by omega
  clear hb2 hrow t0 t1
  go_wp2_with fail
  go_loopw [7] (fun i wr => R3 dim n (.slice A n cap) b l w pb i wr) (fun i _ => m - (intOf i).toNat)
  case atStart => exact H0.out
  case round =>
    obtain ⟨k, hk, rfl, hall, hrow, hb, hbx⟩ := hrel
    rw [hm] at hk
    have HROW := Lib.hid hrow
    have HALL := Lib.hid hall
    have HB := Lib.hid hb
    have HX := Lib.hid hbx
    obtain ⟨t0, t1⟩ := hbx.cells
    have lz' := (Array.getElem?_eq_some_iff.1 hrow).1
    have lz2 := (Array.getElem?_eq_some_iff.1 hbx).1
    by_cases hkm : k = m
    · subst hkm
      have HSQ := Lib.hid (show Seq 1 inC wr w.heap.size wr.heap.size (.slice (some ⟨pb, 0, none⟩) n n) (thruL b n l) from by
        rw [List.take_of_length_le (by omega)] at hrow
        exact seq_rowI hrow (by unfold thruL; simp) (by omega) (by omega))
      have HALL' := Lib.hid (show l.all (vecB · dim) = true by rw [List.take_of_length_le (by omega)] at hall; exact hall)
      clear hrow hall hb hbx
      go_wp2_with fail
      go_ret2
      exact ⟨rt_yes HALL'.out HSQ.out, HB.out⟩
    · obtain ⟨x, hx⟩ : ∃ x, l[k]? = some x := ⟨_, List.getElem?_eq_getElem (by omega)⟩
      obtain ⟨lad, xv, e1, lbk, c0, hxv⟩ := (HVS.out.below hb).get hx
      subst e1
      have HXV := Lib.hid (hxv.more (Nat.le_refl _) hb.size)
      have HKX := Lib.hid hx
      have HTK := Lib.hid (take_next hx)
      have hlb : lad.block < wr.heap.size := Nat.lt_of_lt_of_le lbk hb.size
      obtain ⟨XA, xn, xc, rfl⟩ : ∃ XA xn xc, xv = .slice XA xn xc := by obtain ⟨A, c, e, _⟩ := HXV.out; exact ⟨_, _, _, e⟩
      clear hrow hall hb hbx hxv hx
      cases hv : vecB x dim with
      | false =>
        have HVF := Lib.hid hv
        go_wp2_with fail
        go_quiet ((go_at_call 24; exact Calls.quiet_of_same (quiet_of_left (HV.out _ _ _ HXV.out))))
        rw [hv]
        go_wp2_with fail
        go_ret2
        exact ⟨rt_no (all_no (k := k + 1) (by rw [all_next HKX.out, HALL.out, HVF.out]; rfl)), below_drewN HB.out nq⟩
      | true =>
        have HVT := Lib.hid hv
        go_wp2_with fail
        go_quiet ((go_at_call 24; exact Calls.quiet_of_same (quiet_of_left (HV.out _ _ _ HXV.out))))
        rw [hv]
        go_wp2_with fail
        have X4 := Lib.hid (And.intro (below_drewN HB.out nq) (And.intro (show RowI (wr.drewN nq) pb (thruL b n (l.take k)) from HROW.out) (And.intro (show Boxed2 (wr.drewN nq) w.heap.size dim (.slice A n cap) from HX.out) (show Seq 1 inC (wr.drewN nq) lo' (wr.drewN nq).heap.size (.slice XA xn xc) x from HXV.out))))
        replace t0 : (wr.drewN nq).cell? _ = _ := t0
        replace t1 : (wr.drewN nq).cell? _ = _ := t1
        replace c0 : (wr.drewN nq).cell? _ = _ := c0
        replace hlb : lad.block < (wr.drewN nq).heap.size := hlb
        replace lz' : pb < (wr.drewN nq).heap.size := lz'
        replace lz2 : w.heap.size < (wr.drewN nq).heap.size := lz2
        clear HB HROW HX HXV
        obtain ⟨W4, hW4⟩ : ∃ W4, wr.drewN nq = W4 := ⟨_, rfl⟩
        rw [hW4] at X4 t0 t1 c0 hlb lz' lz2 ⊢
        clear hW4
        go_still_tail 5, (by kernel_rfl)
        go_wp2_with fail
        refine (HA.out _ _ _ (X4.out.1.drew) X4.out.2.2.2).mono ?_
        rintro e w3 ⟨⟨v, rfl, hv⟩, hb3⟩
        have HB3 := Lib.hid (bt hb3 X4.out.1.drew)
        have hrow3 : RowI w3 pb (thruL b n (l.take k)) := (hb3.block _ lz').trans X4.out.2.1
        have hbx3 : Boxed2 w3 w.heap.size dim (.slice A n cap) := (hb3.block _ lz2).trans X4.out.2.2.1
        have HX3 := Lib.hid hbx3
        obtain ⟨WA, wc, rfl, wc1, wc2, hway, _⟩ := id hv
        have hlw : (wayI b x).length = (wayOf b 0 x).length := by unfold wayI; simp
        have HG := Lib.hid (fun (W : World) (hO : Only pb w3 W) (j : Nat) (hj : j < (wayOf b 0 x).length) => show ∃ (ad : Addr) (y : Nat), WA = some ad ∧ (wayOf b 0 x)[j]? = some y ∧ W.cell? (ad.add j) = some (.int .i64 (y : Int)) from by
          obtain ⟨ad, z, e, hlo, _, hx', hc⟩ := rdI hway (i := j) (by rw [hlw]; exact hj)
          unfold wayI at hx'
          rw [List.getElem?_map] at hx'
          obtain ⟨y, hy, rfl⟩ := Option.map_eq_some_iff.1 hx'
          exact ⟨ad, y, e, hy, hO.cell (by rw [show (ad.add j).block = ad.block by unfold Addr.add; split <;> rfl]; have : (World.drew W4).heap.size = W4.heap.size := rfl; omega) hc⟩)
        obtain ⟨wn, hwn⟩ : ∃ wn, (wayOf b 0 x).length = wn := ⟨_, rfl⟩
        have hhl := way_len b 0 x
        have hhi := high_le b
        rw [hlw, hwn] at wc1 ⊢
        rw [hwn] at HG
        have H1 := Lib.hid (show R4 n b (l.take k) (wayOf b 0 x) w w3 pb (.int .i64 0) w3 from ⟨0, Nat.zero_le _, rfl, by rw [List.take_zero, part_nil]; exact hrow3, HB3.out, rfl, fun _ _ => rfl⟩)
        have hlk : (l.take k).length ≤ k := by rw [List.length_take]; omega
        clear hb3 hrow3 hbx3 hv hway t0 t1 c0 hlw
        unfold maxLen at wc2
        go_wp2_with fail
        go_loopw [9] (fun i wr => R4 n b (l.take k) (wayOf b 0 x) w w3 pb i wr) (fun i _ => wn - (intOf i).toNat)
        case atStart => exact H1.out
        case round =>
          obtain ⟨q, hq, rfl, hrow, hb, hO⟩ := hrel
          rw [hwn] at hq
          have HROW := Lib.hid hrow
          have HB := Lib.hid hb
          have HO := Lib.hid hO
          by_cases hqn : q = wn
          · subst hqn
            have HR := Lib.hid (show RowI wr pb (thruL b n (l.take (k + 1))) from by rw [HTK.out, ← part_all]; rw [List.take_of_length_le (l := wayOf b 0 x) (by omega)] at hrow; exact hrow)
            have HX' := Lib.hid ((hO.2 w.heap.size (by omega)).trans HX3.out)
            clear hrow hb hO
            go_wp2_with fail
            exact ⟨⟨k + 1, by omega, by go_num, by rw [all_next HKX.out, HALL.out, HVT.out]; rfl, HR.out, HB.out, HX'.out⟩, by simp [intOf]; omega⟩
          · obtain ⟨wad, y, rfl, hy, c1⟩ := HG.out _ hO q (by omega)
            have hyn : y < n := by
              have := way_range b 0 x y (List.mem_of_getElem? hy)
              omega
            have hc0 : ((wayOf b 0 x).take q).count y = 0 := by
              rw [List.count_eq_zero]
              intro hmem
              have hnd := way_nodup b 0 x
              rw [← List.take_append_drop q (wayOf b 0 x)] at hnd
              have hd := (List.nodup_append.1 hnd).2.2 y hmem y (by rw [List.mem_iff_getElem?]; exact ⟨0, by rw [List.getElem?_drop]; simpa using hy⟩)
              exact hd rfl
            have c2 := hrow.cell (i := y) (z := (thru b (l.take k) y : Int)) (by unfold partL; rw [range_get _ hyn, hc0]; simp)
            have hf := hrow.frozen (i := y)
            have hth := thru_le b (l.take k) y
            have HN := Lib.hid (part_set b n (l.take k) ((wayOf b 0 x).take q) y ((thru b (l.take k) y : Int) + 1) (by rw [hc0]; simp))
            have HTQ := Lib.hid (take_next hy)
            obtain ⟨T, hT⟩ : ∃ T, thru b (l.take k) y = T := ⟨_, rfl⟩
            rw [hT] at c2 hth HN
            clear hrow hb hO hc0 hy hT
            go_wp2_with fail
            refine ⟨⟨q + 1, by omega, by go_num, ?_, HB.out.setCell (p := ⟨pb, y, none⟩) (by show w.heap.size ≤ pb; omega) _, HO.out.set _ _⟩, by simp [intOf]; omega⟩
            rw [HTQ.out, ← HN.out]
            exact HROW.out.set _
set_option maxRecDepth 100000 in
theorem RRoute_no (nv lv : Value) (ls : List Nd) (dim : Int) (lo : Nat) (w : World) (h : Nds w lo w.heap.size nv ls) (hl7 : ls.length ≤ 1000000) (hT : ¬ IsT dim ls) :
    Calls Tryd.prog 20 #[.agg #[.int .i64 dim, nv], lv] w fun e w' => e = .returned (.tuple #[.slice none 0 0, .int .i64 100]) ∧ Below w.heap.size w w' := by
  have HI := Lib.hid (fun (W : World) (hb : Below w.heap.size w W) => RTIs_any nv ls dim lo W (h.up hb) hl7)
  obtain ⟨A, cap, rfl, hc1, hc2, _⟩ := h.form
  obtain ⟨n, hn⟩ : ∃ n, ls.length = n := ⟨_, rfl⟩
  rw [isTB_false.2 hT] at HI
  rw [hn] at HI hc1 ⊢
  clear h
  go_enter Tryd.func20, Tryd.ntmps20
  go_wp2_with fail
  refine (HI.out _ (below_a1 _ _)).mono ?_
  rintro e w1 ⟨rfl, hb1⟩
  have HB1 := Lib.hid (bt hb1 (below_a1 w _))
  clear hb1
  go_wp2_with fail
  go_ret2
  exact ⟨rfl, HB1.out⟩
end Go.Proofs.YtmmgfelifmdnbaaDoor.RRoW
