/- The reference's crashLine (printed by mkcrl.py). -/
import Derived.Test.YtchgfabgighbfaaGreatDoorPtlW
namespace Go.Proofs.YtchgfabgighbfaaGreatDoor.CrlW
set_option linter.unusedVariables false
set_option linter.unusedSimpArgs false
open Go.RowKit Go.Shelf Base SeqM ScrM ScrP ScrR TxtM GlbD RdsW EqlW LinV SchW AskW GsM RrwW RwdW HzW StpW PtlW

theorem eltK : Elt Tryz.prog 29 46 (.agg #[.int .i64 0, .int .i64 0]) 2 16 := elt_mk (z := .agg #[.int .i64 0, .int .i64 0]) Tryz.underlying29 (by kernel_rfl) rfl (by omega) (by omega)
theorem kep_exit : ∀ (s : Wd) (a : Nat), (58 : UInt8) ∉ s.take a → (s[a]? = some 58 ∨ a = s.length) → kepA s = s.take a ∧ kepB s = s.drop a
  | [], a, _, h => by simp [kepA, kepB]
  | x :: r, 0, _, h => by
    rcases h with h | h
    · obtain rfl : x = 58 := by simpa using h
      simp [kepA, kepB]
    · simp at h
  | x :: r, a + 1, h0, h => by
    have hx : x ≠ 58 := fun e => h0 (by rw [e]; simp)
    have ih := kep_exit r a (fun hh => h0 (by simp [hh])) (by simpa using h)
    unfold kepA kepB at ih ⊢
    rw [List.takeWhile_cons, List.dropWhile_cons, if_pos (by simpa using hx), if_pos (by simpa using hx), ih.1, ih.2]
    simp
def c1 (kv : Value) (ks : List (Int × Int)) : LnR := ⟨.slice none 0 0, .slice none 0 0, kv, onlyKept ks⟩
theorem drop_cons {x : Wd} {a : Nat} {c : UInt8} (h : x[a]? = some c) : x.drop a = c :: x.drop (a + 1) := by
  obtain ⟨h1, h2⟩ := List.getElem?_eq_some_iff.1 h
  rw [List.drop_eq_getElem_cons h1, h2]
theorem bx_grown2 {w W W' : World} {r : LnR} (h : Bx w r W) {e : TypeId} {size n : Nat} {v : Value} {xs : List Value} (hv : W.ownsRow w.heap.size e size v n xs) (hne : e ≠ 31) (hg : W.grownBy W' v.ownBlock) :
    W'.heap[w.heap.size]? = W.heap[w.heap.size]? ∧ W'.heap[w.heap.size + 1]? = some (.cells (lnC r).toArray 31 (0, 0)) ∧ Below w.heap.size w W' :=
  ⟨grown_keep hv hg (Ne.symm hne) (by have := h.size; omega) ⟨_, _, h.res⟩, (grown_keep hv hg (Ne.symm hne) (by have := h.size; omega) ⟨_, _, h.box⟩).trans h.box, below_own h.low hv hg (Nat.le_refl _) (by have := h.size; omega)⟩
theorem grown_ks {w w' : World} {base : Nat} {kv kv' : Value} {ks ks' : List (Int × Int)} (h : LnOw w base (c1 kv ks)) (hg : w.grownBy w' kv.ownBlock) (ho : w'.ownsRow base 46 2 kv' ks'.length (ks'.flatMap kpC)) : LnOw w' base (c1 kv' ks') :=
  ⟨own_keep h.xs (fun k hk ht => grown_keep h.ks hg (by decide) hk ht), own_keep h.ds (fun k hk ht => grown_keep h.ks hg (by decide) hk ht), ho⟩
theorem Bx.push_ks {w W w2 : World} {kv kv' : Value} {ks ks' : List (Int × Int)} (h : Bx w (c1 kv ks) W) (hg : W.grownBy w2 kv.ownBlock) (ho : w2.ownsRow w.heap.size 46 2 kv' ks'.length (ks'.flatMap kpC)) :
    Bx w (c1 kv' ks') (w2.setRow (w.heap.size + 1) (lnC (c1 kv' ks')).toArray) := by
  obtain ⟨h1, h2, h3⟩ := bx_grown2 h h.own.ks (by decide) hg
  exact ⟨(row_other (by omega)).trans (h1.trans h.res), row_heap h2, (grown_ks h.own hg ho).row h2, below_row h3 (by omega)⟩
def C1Rel (ws : List Wd) (w : World) (t4 : Value) (wr : World) : Prop := ∃ (k : Nat) (A : Option Addr) (cap : Nat), k ≤ ws.length ∧ t4 = .int .i64 k ∧ Bx w (c1 (.slice A k cap) ((ws.take k).map kepF)) wr
def AtRel (x : Wd) (W : World) (t5 : Value) (wr : World) : Prop := ∃ a : Nat, a ≤ x.length ∧ t5 = .int .i64 a ∧ (58 : UInt8) ∉ x.take a ∧ W = wr
theorem take58 {x : Wd} {a : Nat} {c : UInt8} (h : x[a]? = some c) (h0 : (58 : UInt8) ∉ x.take a) (hc : c ≠ 58) : (58 : UInt8) ∉ x.take (a + 1) := by
  rw [take_next h]
  intro hm
  rcases List.mem_append.1 hm with hm | hm
  · exact h0 hm
  · exact hc (List.mem_singleton.1 hm).symm
set_option maxHeartbeats 8000000 in
set_option maxRecDepth 100000 in
theorem crashLine_any (v : Value) (ws : List Wd) (lo : Nat) (w : World) (h : Seq 1 wdC w lo w.heap.size v ws) (hl : ws.length ≤ 1000001) (hw : ∀ x ∈ ws, x.length ≤ 1000000) :
    Calls Tryz.prog 62 #[v] w (LnPost (crashF ws) w) := by
  obtain ⟨A0, ca, rfl, hc1, hc2, _⟩ := id h
  unfold maxLen at hc2
  obtain ⟨n, hn⟩ : ∃ n, ws.length = n := ⟨_, rfl⟩
  have HN := Lib.hid hn
  have HW := Lib.hid hw
  have HV := Lib.hid (fun (W : World) (hb : Below w.heap.size w W) (k : Nat) (hlt : k < n) => by
    obtain ⟨A', cap', e', _, _, hr, _⟩ := h.below hb
    cases e'
    exact rdW hr (i := k) (by rw [hn]; exact hlt))
  rw [hn] at hl hc1 ⊢
  clear h hn hw
  go_enter Tryz.func62, Tryz.ntmps62
  go_wp2_with (refine (id ?_ : wpList _ _ _ (⟨none, .store _ _ _, _, _, _, _⟩ :: _) _ _); refine wpList_store_row rfl 31 (.tmp 3) (.tmp 7) rfl (w.heap.size + 1) _ (by rfl) (by rfl) 31 _ (alloc2_new w _ _) (by kernel_rfl) (by rfl) (all_one _ (by rfl)) ?_)
  have H0 := Lib.hid (bx_new w (c1 (.slice none 0 0) []) rfl rfl rfl ⟨rfl, rfl, rfl⟩)
  go_wp2_with fail
  go_loopw [4] (fun t4 wr => C1Rel ws w t4 wr) (fun t4 _ => n - (RowKit.intOf t4).toNat)
  case atStart => exact ⟨0, none, 0, Nat.zero_le _, rfl, H0.out⟩
  case round =>
    obtain ⟨k, A, cap, hk, rfl, hbx⟩ := hrel
    rw [HN.out] at hk
    have HB := Lib.hid hbx
    have hsz := hbx.size
    have hlow := hbx.low
    clear hbx H0
    by_cases hlt : k < n
    · obtain ⟨ad, x, e2, _, hbk, hx, hcell⟩ := HV.out wr hlow k hlt
      cases e2
      have hxl := HW.out x (List.mem_of_getElem? hx)
      obtain ⟨xl, hxlen⟩ : ∃ xl, x.length = xl := ⟨_, rfl⟩
      have HXL := Lib.hid hxlen
      have hxs : x.toArray.size = xl := by simpa using hxlen
      have hxs2 : (⟨x.toArray⟩ : ByteArray).size = xl := hxs
      have HX := Lib.hid hx
      have HXW := Lib.hid hxl
      rw [hxlen] at hxl
      have hb2 : (ad.add k).block < w.heap.size := by rw [Base.add_block]; exact hbk
      have hb3 : (ad.add k).block < wr.heap.size := by omega
      have HIX := Lib.hid (fun (j : Nat) (c : UInt8) (hc : x[j]? = some c) (hh : j < (⟨x.toArray⟩ : ByteArray).size) => at_byte hc hh)
      have HGL := Lib.hid (fun (j : Nat) (hj : j < xl) => (⟨_, List.getElem?_eq_getElem (by rw [hxlen]; exact hj)⟩ : ∃ c, x[j]? = some c))
      have HO := Lib.hid (show wr.ownsRow w.heap.size 46 2 (.slice A k cap) k (((ws.take k).map kepF).flatMap kpC) by have h9 := HB.out.own.ks; rw [show (c1 (.slice A k cap) ((ws.take k).map kepF)).ln.kept = ((ws.take k).map kepF) from rfl, List.length_map, List.length_take, HN.out, Nat.min_eq_left (by omega)] at h9; exact h9)
      have e19 := HB.out.at_ (o := 19) rfl
      have HE19 := Lib.hid e19
      have HA0 := Lib.hid (show AtRel x wr (.int .i64 0) wr from ⟨0, Nat.zero_le _, rfl, by simp, rfl⟩)
      clear hx hxlen e19 hbk
      go_wp2_with fail
      go_loopw [5] (fun t5 w2 => AtRel x wr t5 w2) (fun t5 _ => xl - (RowKit.intOf t5).toNat)
      case atStart => exact HA0.out
      case round =>
        obtain ⟨a, ha, rfl, hno, rfl⟩ := hrel
        rw [HXL.out] at ha
        have HNO := Lib.hid hno
        clear hno HA0
        by_cases hal : a < xl
        · obtain ⟨c, hc⟩ := HGL.out a hal
          have hix := HIX.out a c hc
          have HC := Lib.hid hc
          clear hc
          by_cases h58 : c = 58
          · subst h58
            have d1 : (((58 : UInt8).toNat : Int) != 58) = false := by decide
            have hexA : (⟨x.toArray⟩ : ByteArray).extract 0 a = ⟨(x.take a).toArray⟩ := by rw [cut_mid]; simp
            have hexB : (⟨x.toArray⟩ : ByteArray).extract (a + 1) xl = ⟨(x.drop (a + 1)).toArray⟩ := by rw [cut_mid, List.take_of_length_le (by rw [HXL.out]; exact Nat.le_refl _)]
            have HKF := Lib.hid (show kepF x = (numF (x.take a), numF (x.drop (a + 1))) by obtain ⟨q1, q2⟩ := kep_exit x a HNO.out (.inl HC.out); unfold kepF; rw [q1, q2, drop_cons HC.out, if_neg (by simp), List.tail_cons])
            have HTK := Lib.hid (show (ws.take (k + 1)).map kepF = ((ws.take k).map kepF) ++ [kepF x] by rw [take_next HX.out, List.map_append]; rfl)
            rw [HKF.out] at HTK
            have hta : (x.take a).length ≤ 1000000 := by rw [List.length_take]; have := HXW.out; omega
            have htb : (x.drop (a + 1)).length ≤ 1000000 := by rw [List.length_drop]; have := HXW.out; omega
            have HTA := Lib.hid hta
            have HTB := Lib.hid htb
            clear hta htb
            have f19 := HE19.out
            have hgb : w.heap.size + 1 < wr.heap.size := by omega
            go_wp2_with fail
            refine (number_any (x.take a) HTA.out _).mono ?_
            rintro e w1 ⟨rfl, rfl⟩
            go_wp2_with fail
            refine (number_any (x.drop (a + 1)) HTB.out _).mono ?_
            rintro e w1 ⟨rfl, rfl⟩
            have HBA := Lib.hid (HB.out.free (below_a1 wr (.cells #[.int .i64 (numF (x.take a)), .int .i64 (numF (x.drop (a + 1)))] 46)))
            have HOA := Lib.hid (own_below HO.out (below_a1 wr (.cells #[.int .i64 (numF (x.take a)), .int .i64 (numF (x.drop (a + 1)))] 46)))
            go_wp2_with (first | (at_builtin; refine app1 (wr.alloc (.cells #[.int .i64 (numF (x.take a)), .int .i64 (numF (x.drop (a + 1)))] 46)) #[.int .i64 (numF (x.take a)), .int .i64 (numF (x.drop (a + 1)))] rfl (.tmp 57) (.tmp 59) _ rfl eltK w.heap.size A k cap _ rfl HOA.out (by simp only [World.size_alloc]; rfl) rfl (by simp [Value.oneCell']) (by omega) (by simp; omega) ?_; intro D2 dc2 w9 happ; have HAP := Lib.hid happ; have hgr := bx_grown2 HBA.out HOA.out (by decide) happ.grown; have HG := Lib.hid hgr; clear hgr happ) | (refine (id ?_ : wpList _ _ _ (⟨none, .store 29 _ _, _, _, _, _⟩ :: _) _ _); refine listStore rfl 29 (.tmp 61) (.tmp 60) rfl (w.heap.size + 1) 19 (.slice D2 (k + 1) dc2) (by rfl) (by rfl) 31 _ (lnC (c1 (.slice D2 (k + 1) dc2) (((ws.take k).map kepF) ++ [(numF (x.take a), (numF (x.drop (a + 1))))]))).toArray HG.out.2.1 (by kernel_rfl) (Nat.le_of_ble_eq_true rfl) (by simp [Value.cells, Value.oneCell']) rfl ?_))
            have HF := Lib.hid (Bx.push_ks (ks' := ((ws.take k).map kepF) ++ [(numF (x.take a), (numF (x.drop (a + 1))))]) HBA.out HAP.out.grown (by have h9 := HAP.out.own; rw [List.flatMap_append, List.length_append, List.length_map, List.length_take, HN.out, Nat.min_eq_left (by omega)]; exact h9))
            exact ⟨⟨k + 1, D2, dc2, by rw [HN.out]; omega, by go_num, by rw [HTK.out]; exact HF.out⟩, by simp [RowKit.intOf]; omega⟩
          · have d1 : ((c.toNat : Int) != 58) = true := bne_iff_ne.2 (fun h => h58 (by apply UInt8.toNat.inj; show c.toNat = 58; omega))
            have HT := Lib.hid (take58 HC.out HNO.out h58)
            clear h58
            go_wp2_with fail
            exact ⟨⟨a + 1, by rw [HXL.out]; omega, by go_num, HT.out, rfl⟩, by simp [RowKit.intOf]; omega⟩
        · have hexA : (⟨x.toArray⟩ : ByteArray).extract 0 a = ⟨(x.take a).toArray⟩ := by rw [cut_mid]; simp
          have HKF := Lib.hid (show kepF x = (numF (x.take a), 0) by obtain ⟨q1, q2⟩ := kep_exit x a HNO.out (.inr (by rw [HXL.out]; omega)); unfold kepF; rw [q1, q2, List.drop_of_length_le (by rw [HXL.out]; omega), if_pos rfl])
          have HTK := Lib.hid (show (ws.take (k + 1)).map kepF = ((ws.take k).map kepF) ++ [kepF x] by rw [take_next HX.out, List.map_append]; rfl)
          rw [HKF.out] at HTK
          have hta : (x.take a).length ≤ 1000000 := by rw [List.length_take]; have := HXW.out; omega
          have htb : (x.drop (a + 1)).length ≤ 1000000 := by rw [List.length_drop]; have := HXW.out; omega
          have HTA := Lib.hid hta
          have HTB := Lib.hid htb
          clear hta htb
          have f19 := HE19.out
          have hgb : w.heap.size + 1 < wr.heap.size := by omega
          go_wp2_with fail
          refine (number_any (x.take a) HTA.out _).mono ?_
          rintro e w1 ⟨rfl, rfl⟩
          have HBA := Lib.hid (HB.out.free (below_a1 wr (.cells #[.int .i64 (numF (x.take a)), .int .i64 0] 46)))
          have HOA := Lib.hid (own_below HO.out (below_a1 wr (.cells #[.int .i64 (numF (x.take a)), .int .i64 0] 46)))
          go_wp2_with (first | (at_builtin; refine app1 (wr.alloc (.cells #[.int .i64 (numF (x.take a)), .int .i64 0] 46)) #[.int .i64 (numF (x.take a)), .int .i64 0] rfl (.tmp 57) (.tmp 59) _ rfl eltK w.heap.size A k cap _ rfl HOA.out (by simp only [World.size_alloc]; rfl) rfl (by simp [Value.oneCell']) (by omega) (by simp; omega) ?_; intro D2 dc2 w9 happ; have HAP := Lib.hid happ; have hgr := bx_grown2 HBA.out HOA.out (by decide) happ.grown; have HG := Lib.hid hgr; clear hgr happ) | (refine (id ?_ : wpList _ _ _ (⟨none, .store 29 _ _, _, _, _, _⟩ :: _) _ _); refine listStore rfl 29 (.tmp 61) (.tmp 60) rfl (w.heap.size + 1) 19 (.slice D2 (k + 1) dc2) (by rfl) (by rfl) 31 _ (lnC (c1 (.slice D2 (k + 1) dc2) (((ws.take k).map kepF) ++ [(numF (x.take a), 0)]))).toArray HG.out.2.1 (by kernel_rfl) (Nat.le_of_ble_eq_true rfl) (by simp [Value.cells, Value.oneCell']) rfl ?_))
          have HF := Lib.hid (Bx.push_ks (ks' := ((ws.take k).map kepF) ++ [(numF (x.take a), 0)]) HBA.out HAP.out.grown (by have h9 := HAP.out.own; rw [List.flatMap_append, List.length_append, List.length_map, List.length_take, HN.out, Nat.min_eq_left (by omega)]; exact h9))
          exact ⟨⟨k + 1, D2, dc2, by rw [HN.out]; omega, by go_num, by rw [HTK.out]; exact HF.out⟩, by simp [RowKit.intOf]; omega⟩
    · have HJ := Lib.hid (show ws.take k = ws from List.take_of_length_le (by rw [HN.out]; omega))
      clear hlow
      go_wp2_with (first | (refine (id ?_ : wpList _ _ _ (⟨some 62, .load _ _, _, _, _, _⟩ :: _) _ _); refine wpList_load_row rfl 31 (.tmp 3) rfl (w.heap.size + 1) (by rfl) _ _ _ _ HB.out.box Tryz.underlying31 rfl (by kernel_rfl) ?_) | (refine (id ?_ : wpList _ _ _ (⟨none, .store 31 _ _, _, _, _, _⟩ :: _) _ _); refine wpList_store_row rfl 31 (.tmp 2) (.tmp 62) rfl w.heap.size _ (by rfl) (by rfl) 31 _ HB.out.res (by kernel_rfl) (by rfl) (all_one _ (by rfl)) ?_))
      have hF := setRow_heap _ _ _ (lnC (c1 (.slice A k cap) ((ws.take k).map kepF))).toArray _ _ HB.out.res
      refine bodyPost_ret (v := .agg (lnC (c1 (.slice A k cap) ((ws.take k).map kepF))).toArray) (results_cell_row (p := 2) (by kernel_rfl) _ _ w.heap.size _ _ _ _ (by rfl) hF Tryz.underlying31 rfl (by kernel_rfl)) rfl ?_
      exact ⟨_, rfl, by rw [HJ.out]; rfl, HB.out.own.row HB.out.res, below_row HB.out.low (Nat.le_refl _)⟩
end Go.Proofs.YtchgfabgighbfaaGreatDoor.CrlW
