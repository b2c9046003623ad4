/- script.Show, the walk. -/
import Derived.Test.YtchgfabgighbfaaGreatDoorShwW
namespace Go.Proofs.YtchgfabgighbfaaGreatDoor.ShoW
set_option linter.unusedVariables false
open Go.RowKit Go.Shelf Base SeqM ScrM ScrP EqlW LinV TxtM GlbD FmtW BldW ScrB ScrL SchW AskW RgtW RedW ShwW

theorem rdL {w : World} {lo B : Nat} {A : Option Addr} {l : List LnR} (h : Rd w lo B 20 A l.length (l.flatMap lnC)) {i : Nat} (hi : i < l.length) :
    ∃ (ad : Addr) (r : LnR), A = some ad ∧ lo ≤ ad.block ∧ ad.block < B ∧ l[i]? = some r ∧ ∀ j v, (lnC r)[j]? = some v → w.cell? ((ad.add (i * 20)).add j) = some v := by
  obtain ⟨ad, x, e, h1, h2, hx, hc⟩ := rdk lnC_len h hi
  exact ⟨ad, x, e, h1, h2, hx, fun j v hj => by rw [Base.add_add']; exact hc j v hj⟩
def small (r : LnR) : Prop := r.ln.cf.c7 ≤ 9223372036854775807 ∧ ∀ x ∈ r.ln.draws, x < 18446744073709551616
def ShwPost (w : World) (ls : List Ln) (e : Ending) (w' : World) : Prop := ∃ (t : List UInt8) (f : Int), e = .returned (.tuple #[.string ⟨t.toArray⟩, .int .i64 f]) ∧ showR ls = (t, f) ∧ Below w.heap.size w w'
def S1Rel (L : List LnR) (w : World) (i : Value) (wr : World) : Prop := ∃ k : Nat, k ≤ L.length ∧ i = .int .i64 k ∧ (∀ r ∈ L.take k, Right r.ln) ∧ Below w.heap.size w wr
def S2Rel (L : List LnR) (w0 Wa : World) (bb : Nat) (i : Value) (wr : World) : Prop := ∃ k : Nat, k ≤ L.length ∧ i = .int .i64 k ∧ WSt w0 Wa bb (textAll ((L.take k).map (·.ln))) wr ∧ (textAll ((L.take k).map (·.ln))).length ≤ 262144
theorem textAll_next {L : List LnR} {k : Nat} {r : LnR} (h : L[k]? = some r) : textAll ((L.take (k + 1)).map (·.ln)) = textAll ((L.take k).map (·.ln)) ++ lineT r.ln := by
  rw [EqlW.take_next' h]; simp [textAll]
theorem textAll_le (L : List LnR) (k : Nat) : (textAll ((L.take k).map (·.ln))).length ≤ (textAll (L.map (·.ln))).length := by
  have : textAll (L.map (·.ln)) = textAll ((L.take k).map (·.ln)) ++ textAll ((L.drop k).map (·.ln)) := by
    unfold textAll; rw [← List.flatMap_append, ← List.map_append, List.take_append_drop]
  rw [this, List.length_append]; omega
theorem lineT_le {r : LnR} (hr : Right r.ln) : (lineT r.ln).length ≤ 110000 := by
  obtain ⟨xv, dv, kv, l⟩ := r
  dsimp only at hr ⊢
  cases hr with
  | conf c hc =>
    have h64 : ∀ x ∈ c.nums, -9223372036854775808 ≤ x ∧ x ≤ 9223372036854775807 := ScrS.conf_64 hc
    have := rowT_len _ h64
    rw [lineT_conf]; simp only [List.length_append, List.length_cons, List.length_nil, Cf.nums] at this ⊢; omega
  | ask a d ha hd hk hu =>
    rw [lineT_ask]
    obtain ⟨k, i, xs, n, m⟩ := a
    obtain ⟨h1, h2, h3, h4, h5, h6, _⟩ := ha
    unfold few at h3 h4 h5
    dsimp only at h1 h2 h3 h4 h5 h6 ⊢
    have hrow := rowT_len xs (fun x hx => by have := h6 x hx; omega)
    have hri := rowT_len [i] (one_bd (by omega))
    have hrn := rowT_len [n, m] (two_bd (by omega) (by omega))
    have hrn2 := rowT_len [n] (one_bd (by omega))
    have hdw := drawT_len d hu
    simp only [List.length_cons, List.length_nil] at hri hrn hrn2
    unfold askT
    split <;> (try split) <;> (try split) <;> (try split) <;> (try split) <;> (try split) <;> simp only [List.length_append, List.length_cons, List.length_nil, wPut, wScore, wWhy, wAlerts, wAck, wStats, wSnap] <;> omega
  | stop n h1 h2 =>
    have hrn2 := rowT_len [n] (one_bd (by omega))
    rw [lineT_stop]; simp only [List.length_append, List.length_cons, List.length_nil] at hrn2 ⊢; omega
  | crash k hk hl =>
    have := kepT_len k hk
    rw [lineT_crash]; simp only [List.length_append, List.length_cons, List.length_nil] at this ⊢; omega
  | opens => rw [lineT_open]; decide
theorem LnIn.any {w W : World} {r : LnR} (h : LnIn w 0 w.heap.size r) (hb : Below w.heap.size w W) : LnIn W 0 W.heap.size r := h.up hb
set_option maxHeartbeats 8000000 in
set_option maxRecDepth 100000 in
theorem Show_any (v : Value) (L : List LnR) (lo : Nat) (w : World) (hG : G w) (hv : Seq 20 lnC w lo w.heap.size v L) (he : ∀ r ∈ L, LnIn w 0 w.heap.size r) (hsm : ∀ r ∈ L, small r) :
    Calls Tryz.prog 7 #[v] w (ShwPost w (L.map (·.ln))) := by
  have HG := Lib.hid hG
  obtain ⟨A, cap, rfl, hc1, hc2, _⟩ := id hv
  obtain ⟨n, hn⟩ : ∃ n, L.length = n := ⟨_, rfl⟩
  have HN := Lib.hid hn
  have HV := Lib.hid (fun (W : World) (hb : Below w.heap.size w W) (k : Nat) (hlt : k < n) => by
    obtain ⟨A', cap', e', _, _, hr, _⟩ := hv.up hb
    cases e'
    exact rdL hr (i := k) (by rw [hn]; exact hlt))
  have HE := Lib.hid he
  have HSM := Lib.hid hsm
  have H0 := Lib.hid (show S1Rel L w (.int .i64 0) w from ⟨0, Nat.zero_le _, rfl, by simp, Below.refl _ _⟩)
  rw [hn] at hc1 ⊢
  unfold maxLen at hc2
  clear hG hv he hsm hn
  by_cases h5 : 512 < n
  · have HX := Lib.hid (show ShwPost w (L.map (·.ln)) (.returned (.tuple #[.string ⟨([] : List UInt8).toArray⟩, .int .i64 3])) w from ⟨[], 3, rfl, by unfold showR; rw [if_pos (by rw [List.length_map, HN.out]; exact h5)], Below.refl _ _⟩)
    have hd : decide ((n : Int) > 512) = true := decide_eq_true (by omega)
    clear H0 h5
    go_enter Tryz.func7, Tryz.ntmps7
    go_wp2_with fail
    go_ret2
    exact HX.out
  · have hd : decide ((n : Int) > 512) = false := decide_eq_false (by omega)
    have HL5 := Lib.hid (show ¬ 512 < (L.map (·.ln)).length by rw [List.length_map, HN.out]; exact h5)
    clear h5
    go_enter Tryz.func7, Tryz.ntmps7
    go_wp2_with fail
    go_loopw [14] (fun i wr => S1Rel L w i wr) (fun i _ => n - (RowKit.intOf i).toNat)
    case atStart => exact H0.out
    case round =>
      obtain ⟨k, hk, rfl, hr, hb⟩ := hrel
      rw [HN.out] at hk
      have HR := Lib.hid hr
      have HB := Lib.hid hb
      have hzw := hb.size
      clear hr H0 hd
      by_cases hlt : k < n
      · obtain ⟨ad, r, rfl, _, hbk, hx, hcell⟩ := HV.out wr hb k hlt
        have HX := Lib.hid hx
        have HC := Lib.hid hcell
        have hmem := List.mem_of_getElem? hx
        have HIN := Lib.hid (fun W (hb : Below w.heap.size w W) => LnIn.any (HE.out r hmem) hb)
        have HSR := Lib.hid (HSM.out r hmem)
        have H1C := Lib.hid (lnC_one (HE.out r hmem))
        have hb2 : (ad.add (k * 20)).block < wr.heap.size := by rw [Base.add_block]; exact hbk
        clear hx hcell hb hmem
        go_wp2_with (first
          | (refine (id ?_ : wpList _ _ _ (⟨some 17, .load _ _, _, _, _, _⟩ :: _) _ _)
             refine wpList_load_at rfl 31 (.tmp 16) rfl (ad.add (k * 20)) (by rfl) (lnC r) _ HC.out Tryz.underlying31 rfl (by kernel_rfl) ?_)
          | (refine (id ?_ : wpList _ _ _ (⟨none, .store _ (.tmp 5) _, _, _, _, _⟩ :: _) _ _)
             refine wpList_store_row rfl 31 (.tmp 5) (.tmp 17) rfl wr.heap.size (lnC r).toArray (by rfl) (by rfl) 31 _ (heap_alloc_new wr _) (by kernel_rfl) (by rfl) (by simpa using H1C.out) ?_
             generalize hW3 : World.setRow _ _ _ = W3
             have h3c : W3.heap[wr.heap.size]? = some (.cells (lnC r).toArray 31 (0, 0)) := by rw [← hW3]; exact setRow_heap _ _ _ _ _ _ (heap_alloc_new wr _)
             have hb3 : Below wr.heap.size wr W3 := by rw [← hW3]; exact below_setRow (below_a1 wr _) (Nat.le_refl _) _
             have H3C := Lib.hid h3c
             have HB3 := Lib.hid (bt hb3 HB.out)
             clear h3c hb3 hW3)
          | (refine (id ?_ : wpList _ _ _ (⟨some 18, .load _ _, _, _, _, _⟩ :: _) _ _)
             refine wpList_load_row rfl 31 (.tmp 5) rfl wr.heap.size (by rfl) _ _ _ _ H3C.out Tryz.underlying31 rfl (by kernel_rfl) ?_))
        refine (Right_any r 0 W3 (HIN.out W3 HB3.out) HSR.out.1 HSR.out.2).mono ?_
        rintro e W4 ⟨rfl, hb4⟩
        have HB4 := Lib.hid (bt hb4 HB3.out)
        clear hb4
        by_cases hR : Right r.ln
        · rw [right_yes hR]
          have HT := Lib.hid (show ∀ r ∈ L.take (k + 1), Right r.ln by
            rw [EqlW.take_next' HX.out]
            intro x hx
            rcases List.mem_append.1 hx with hx | hx
            · exact HR.out x hx
            · rw [List.mem_singleton.1 hx]; exact hR)
          clear hR
          go_wp2_with fail
          exact ⟨⟨k + 1, by rw [HN.out]; omega, by go_num, HT.out, HB4.out⟩, by simp [RowKit.intOf]; omega⟩
        · rw [right_no hR]
          have HP := Lib.hid (show ShwPost w (L.map (·.ln)) (.returned (.tuple #[.string ⟨([] : List UInt8).toArray⟩, .int .i64 350])) W4 from ⟨[], 350, rfl, by
            unfold showR
            rw [if_neg HL5.out, if_neg (fun h => hR (h r.ln (List.mem_map.2 ⟨r, List.mem_of_getElem? HX.out, rfl⟩)))], HB4.out⟩)
          clear hR
          go_wp2_with fail
          go_ret2
          exact HP.out
      · obtain ⟨wo, rfl⟩ : ∃ wo : World, wo = wr := ⟨_, rfl⟩
        have HALL := Lib.hid (show ∀ r ∈ L, Right r.ln by
          have := HR.out
          rw [List.take_of_length_le (by rw [HN.out]; omega)] at this
          exact this)
        have HSH := Lib.hid (show showR (L.map (·.ln)) = if 262144 < (textAll (L.map (·.ln))).length then ([], 3) else (textAll (L.map (·.ln)), 0) by
          unfold showR
          rw [if_neg HL5.out, if_pos (fun x hx => by obtain ⟨r, hr, rfl⟩ := List.mem_map.1 hx; exact HALL.out r hr)])
        have HG0 := Lib.hid (HG.out.below HB.out)
        have HS := Lib.hid (show WSt wo (wo.alloc (.cells #[.pointer none, .slice none 0 0] 50)) wo.heap.size [] (wo.alloc (.cells #[.pointer none, .slice none 0 0] 50)) from ⟨Lib.fresh_isBuilder _ _ _, below_a1 _ _, KeepU.refl _⟩)
        have HS0 := Lib.hid (show S2Rel L wo (wo.alloc (.cells #[.pointer none, .slice none 0 0] 50)) wo.heap.size (.int .i64 0) (wo.alloc (.cells #[.pointer none, .slice none 0 0] 50)) from ⟨0, Nat.zero_le _, rfl, by simpa [textAll] using HS.out, by simp [textAll]⟩)
        clear hb
        go_wp2_with fail
        obtain ⟨Wb, hWb⟩ : ∃ Wb, wo.alloc (.cells #[.pointer none, .slice none 0 0] 50) = Wb := ⟨_, rfl⟩
        rw [hWb] at HS HS0 ⊢
        obtain ⟨bb, hbb⟩ : ∃ bb, wo.heap.size = bb := ⟨_, rfl⟩
        rw [hbb] at HS HS0 hzw ⊢
        have HBB := Lib.hid hbb
        clear hWb hbb
        go_loopw [24] (fun i wq => S2Rel L wo Wb bb i wq) (fun i _ => n - (RowKit.intOf i).toNat)
        case atStart => exact HS0.out
        case round =>
          obtain ⟨k2, hk2, rfl, hst, hle⟩ := hrel
          rw [HN.out] at hk2
          have HST := Lib.hid hst
          have hlw : Below w.heap.size w wr := HB.out.trans (hst.low.mono HB.out.size)
          have HLW := Lib.hid hlw
          have hzw1 := hlw.size
          clear HS0
          by_cases hlt2 : k2 < n
          · obtain ⟨ad, r, rfl, _, hbk, hx, hcell⟩ := HV.out wr hlw k2 hlt2
            have HX := Lib.hid hx
            have HC := Lib.hid hcell
            have hmem := List.mem_of_getElem? hx
            have HRR := Lib.hid (HALL.out r hmem)
            have HIN := Lib.hid (LnIn.any (HE.out r hmem) HB.out)
            have H1C := Lib.hid (lnC_one (HE.out r hmem))
            have hll := lineT_le (HALL.out r hmem)
            have hb2 : (ad.add (k2 * 20)).block < wr.heap.size := by rw [Base.add_block]; exact hbk
            have HNX := Lib.hid (textAll_next hx)
            have HTL := Lib.hid (textAll_le L (k2 + 1))
            clear hx hcell hst hmem hlw
            go_wp2_with (first
              | (refine (id ?_ : wpList _ _ _ (⟨some 27, .load _ _, _, _, _, _⟩ :: _) _ _)
                 refine wpList_load_at rfl 31 (.tmp 26) rfl (ad.add (k2 * 20)) (by rfl) (lnC r) _ HC.out Tryz.underlying31 rfl (by kernel_rfl) ?_)
              | (refine (id ?_ : wpList _ _ _ (⟨none, .store _ (.tmp 8) _, _, _, _, _⟩ :: _) _ _)
                 refine wpList_store_row rfl 31 (.tmp 8) (.tmp 27) rfl wr.heap.size (lnC r).toArray (by rfl) (by rfl) 31 _ (heap_alloc_new wr _) (by kernel_rfl) (by rfl) (by simpa using H1C.out) ?_
                 generalize hW3 : World.setRow _ _ _ = W3
                 have h3c : W3.heap[wr.heap.size]? = some (.cells (lnC r).toArray 31 (0, 0)) := by rw [← hW3]; exact setRow_heap _ _ _ _ _ _ (heap_alloc_new wr _)
                 have hb3 : Below wr.heap.size wr W3 := by rw [← hW3]; exact below_setRow (below_a1 wr _) (Nat.le_refl _) _
                 have H3C := Lib.hid h3c
                 have HST3 := Lib.hid (HST.out.free hb3)
                 clear h3c hb3 hW3)
              | (refine (id ?_ : wpList _ _ _ (⟨some 28, .load _ _, _, _, _, _⟩ :: _) _ _)
                 refine wpList_load_row rfl 31 (.tmp 8) rfl wr.heap.size (by rfl) _ _ _ _ H3C.out Tryz.underlying31 rfl (by kernel_rfl) ?_))
            refine (line_any HG0.out r 0 HRR.out HIN.out HST3.out (by omega)).mono ?_
            rintro e W4 ⟨rfl, h4⟩
            rw [← HNX.out] at h4
            have hl4 := congrArg List.length HNX.out
            rw [List.length_append] at hl4
            obtain ⟨tn, htn⟩ : ∃ tn, (textAll ((L.take (k2 + 1)).map (·.ln))).length = tn := ⟨_, rfl⟩
            have H4 := Lib.hid h4
            have HTN := Lib.hid htn
            have htn2 : tn ≤ 400000 := by omega
            clear h4 hl4 htn
            go_wp2_with fail
            refine (Tryz.Builder_Len wo.heap.size bb _ W4 H4.out.bld).mono ?_
            rintro e W5 ⟨rfl, rfl⟩
            rw [Lib.byteCells_length, HTN.out]
            by_cases hov : 262144 < tn
            · have hd3 : decide ((tn : Int) > 262144) = true := decide_eq_true (by omega)
              have HP := Lib.hid (show ShwPost w (L.map (·.ln)) (.returned (.tuple #[.string ⟨([] : List UInt8).toArray⟩, .int .i64 3])) W5 from ⟨[], 3, rfl, by
                rw [HSH.out, if_pos (by have := HTL.out; rw [HTN.out] at this; omega)], HB.out.trans (H4.out.low.mono HB.out.size)⟩)
              clear hov
              go_wp2_with fail
              go_ret2
              exact HP.out
            · have hd3 : decide ((tn : Int) > 262144) = false := decide_eq_false (by omega)
              have HF := Lib.hid (show S2Rel L wo Wb bb (.int .i64 ((k2 : Int) + 1)) W5 from ⟨k2 + 1, by rw [HN.out]; omega, by go_num, H4.out, by rw [HTN.out]; omega⟩)
              clear hov
              go_wp2_with fail
              exact ⟨HF.out, by simp [RowKit.intOf]; omega⟩
          · have hke : L.take k2 = L := List.take_of_length_le (by rw [HN.out]; omega)
            rw [hke] at HST hle
            have HP := Lib.hid (show showR (L.map (·.ln)) = (textAll (L.map (·.ln)), 0) by rw [HSH.out, if_neg (by omega)])
            clear hst hke hle
            go_wp2_with fail
            refine (Tryz.Builder_String_any wo.heap.size bb _ wr HST.out.bld HST.out.low.size).mono ?_
            rintro e W5 ⟨rfl, h5⟩
            have HX := Lib.hid (show ShwPost w (L.map (·.ln)) (.returned (.tuple #[.string ⟨(textAll (L.map (·.ln))).toArray⟩, .int .i64 0])) W5 from ⟨_, 0, rfl, HP.out, HB.out.trans ((HST.out.low.trans h5).mono HB.out.size)⟩)
            clear h5
            go_wp2_with fail
            go_ret2
            exact HX.out
end Go.Proofs.YtchgfabgighbfaaGreatDoor.ShoW
