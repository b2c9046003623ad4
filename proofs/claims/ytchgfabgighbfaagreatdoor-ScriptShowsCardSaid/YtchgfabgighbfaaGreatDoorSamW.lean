/- The reference's SameAll (printed by mksame.py). -/
import Derived.Test.YtchgfabgighbfaaGreatDoorShoW
namespace Go.Proofs.YtchgfabgighbfaaGreatDoor.SamW
set_option linter.unusedVariables false
set_option linter.unusedSimpArgs false
open Go.RowKit Go.Shelf Base SeqM ScrM ScrP EqlW LinV TxtM SchW AskW RgtW RedW ShwW ShoW

open Classical in
noncomputable def allB (a b : List Ln) : Bool := decide (a = b)
open Classical in
theorem all_yes {a b : List Ln} (h : a = b) : allB a b = true := by unfold allB; exact decide_eq_true h
open Classical in
theorem all_no {a b : List Ln} (h : ¬ a = b) : allB a b = false := by unfold allB; exact decide_eq_false h
def ARel (a b : List LnR) (w : World) (i : Value) (wr : World) : Prop := ∃ k : Nat, k ≤ a.length ∧ i = .int .i64 k ∧ (a.take k).map (·.ln) = (b.take k).map (·.ln) ∧ Below w.heap.size w wr
set_option maxHeartbeats 8000000 in
set_option maxRecDepth 100000 in
theorem SameAll_any (va vb : Value) (a b : List LnR) (lo lo' : Nat) (w : World) (h1 : Seq 20 lnC w lo w.heap.size va a) (h2 : Seq 20 lnC w lo' w.heap.size vb b) (e1 : ∀ r ∈ a, LnIn w 0 w.heap.size r) (e2 : ∀ r ∈ b, LnIn w 0 w.heap.size r) :
    Calls Tryz.prog 14 #[va, vb] w fun e w' => e = .returned (.bool (allB (a.map (·.ln)) (b.map (·.ln)))) ∧ Below w.heap.size w w' := by
  obtain ⟨A, ca, rfl, hc1, hc2, _⟩ := id h1
  obtain ⟨A2, cb, rfl, hd1, hd2, _⟩ := id h2
  unfold maxLen at hc2 hd2
  by_cases hlen : a.length = b.length
  · obtain ⟨n, hn⟩ : ∃ n, a.length = n := ⟨_, rfl⟩
    have hn2 : b.length = n := by omega
    have HN := Lib.hid hn
    have HN2 := Lib.hid hn2
    have HV := Lib.hid (fun (W : World) (hb : Below w.heap.size w W) (k : Nat) (hlt : k < n) => by
      obtain ⟨A', cap', e', _, _, hr, _⟩ := h1.up hb
      cases e'
      exact rdL hr (i := k) (by rw [hn]; exact hlt))
    have HV2 := Lib.hid (fun (W : World) (hb : Below w.heap.size w W) (k : Nat) (hlt : k < n) => by
      obtain ⟨A', cap', e', _, _, hr, _⟩ := h2.up hb
      cases e'
      exact rdL hr (i := k) (by rw [hn2]; exact hlt))
    have HE1 := Lib.hid e1
    have HE2 := Lib.hid e2
    have H0 := Lib.hid (show ARel a b w (.int .i64 0) w from ⟨0, Nat.zero_le _, rfl, rfl, Below.refl _ _⟩)
    rw [hn] at hc1 ⊢
    rw [hn2] at hd1 ⊢
    clear h1 h2 e1 e2 hlen hn hn2
    go_enter Tryz.func14, Tryz.ntmps14
    go_wp2_with fail
    go_loopw [5] (fun i wr => ARel a b w i wr) (fun i _ => n - (RowKit.intOf i).toNat)
    case atStart => exact H0.out
    case round =>
      obtain ⟨k, hk, rfl, ht, hb⟩ := hrel
      rw [HN.out] at hk
      have HT := Lib.hid ht
      have HB := Lib.hid hb
      clear ht H0
      by_cases hlt : k < n
      · obtain ⟨ad, x, rfl, _, hbk, hx, hcell⟩ := HV.out wr hb k hlt
        obtain ⟨ad2, y, rfl, _, hbk2, hy, hcell2⟩ := HV2.out wr hb k hlt
        have HX := Lib.hid hx
        have HY := Lib.hid hy
        have HC := Lib.hid hcell
        have HC2 := Lib.hid hcell2
        have HIX := Lib.hid ((HE1.out x (List.mem_of_getElem? hx)).up hb)
        have HIY := Lib.hid ((HE2.out y (List.mem_of_getElem? hy)).up hb)
        have hlt2 : (k : Int) < (n : Int) := by omega
        have hge : (0 : Int) ≤ (k : Int) := by omega
        clear hx hy hcell hcell2 hb
        go_wp2_with fail
        refine wp_region_held_drew (S := fun w' => (∀ j v, (lnC x)[j]? = some v → w'.cell? ((ad.add (k * 20)).add j) = some v) ∧ (∀ j v, (lnC y)[j]? = some v → w'.cell? ((ad2.add (k * 20)).add j) = some v)) (by kernel_rfl) ?_ (fun hHeld => ?_)
        · exact ⟨HC.out, HC2.out⟩
        refine wpAnyH_take (i := 0) (oi := ?oi0_1) (v := ?v0_1) ?hi0_1 (by kernel_rfl) ?hf0_1 (by kernel_rfl) ?hq0_1 ?hy0_1 hHeld ?rest0_1
        case hi0_1 => (simp only [List.getElem?_toArray, List.getElem?_cons_zero]; try exact rfl)
        case hf0_1 => kernel_rfl
        case hq0_1 => exact fun _ _ _ h => h
        case hy0_1 => (refine Or.inl ⟨rfl, ?_⟩; intro w hSw; (try dsimp only at hSw); go_simp; try with_reducible rfl)
        try simp only [Act.put, List.setIfInBounds_toArray, List.set_cons_zero, List.set_cons_succ]
        refine wpAnyH_take (i := 1) (oi := ?oi1_2) (v := ?v1_2) ?hi1_2 (by kernel_rfl) ?hf1_2 (by kernel_rfl) ?hq1_2 ?hy1_2 hHeld ?rest1_2
        case hi1_2 => (simp only [List.getElem?_toArray, List.getElem?_cons_succ, List.getElem?_cons_zero]; try exact rfl)
        case hf1_2 => kernel_rfl
        case hq1_2 => exact fun _ _ _ h => h
        case hy1_2 => (refine Or.inl ⟨rfl, ?_⟩; intro w hSw; (try dsimp only at hSw); go_simp; try with_reducible rfl)
        try simp only [Act.put, List.setIfInBounds_toArray, List.set_cons_zero, List.set_cons_succ]
        refine wpAnyH_take (i := 2) (oi := ?oi2_3) (v := ?v2_3) ?hi2_3 (by kernel_rfl) ?hf2_3 (by kernel_rfl) ?hq2_3 ?hy2_3 hHeld ?rest2_3
        case hi2_3 => (simp only [List.getElem?_toArray, List.getElem?_cons_succ, List.getElem?_cons_zero]; try exact rfl)
        case hf2_3 => kernel_rfl
        case hq2_3 => exact fun _ _ _ h => h
        case hy2_3 => (refine Or.inl ⟨rfl, ?_⟩; intro w hSw; (try dsimp only at hSw); go_simp; try with_reducible rfl)
        try simp only [Act.put, List.setIfInBounds_toArray, List.set_cons_zero, List.set_cons_succ]
        refine wpAnyH_take (i := 3) (oi := ?oi3_4) (v := ?v3_4) ?hi3_4 (by kernel_rfl) ?hf3_4 (by kernel_rfl) ?hq3_4 ?hy3_4 hHeld ?rest3_4
        case hi3_4 => (simp only [List.getElem?_toArray, List.getElem?_cons_succ, List.getElem?_cons_zero]; try exact rfl)
        case hf3_4 => kernel_rfl
        case hq3_4 => exact fun _ _ _ h => h
        case hy3_4 => (refine yieldsIf_load_at ?_ 31 (.tmp 19) ?_ (ad.add (k * 20)) ?_ (lnC x) _ ?_ Tryz.underlying31 rfl (by kernel_rfl) <;> first | exact fun _ h => h.1 | rfl)
        try simp only [Act.put, List.setIfInBounds_toArray, List.set_cons_zero, List.set_cons_succ]
        refine wpAnyH_take (i := 4) (oi := ?oi4_5) (v := ?v4_5) ?hi4_5 (by kernel_rfl) ?hf4_5 (by kernel_rfl) ?hq4_5 ?hy4_5 hHeld ?rest4_5
        case hi4_5 => (simp only [List.getElem?_toArray, List.getElem?_cons_succ, List.getElem?_cons_zero]; try exact rfl)
        case hf4_5 => kernel_rfl
        case hq4_5 => exact fun _ _ _ h => h
        case hy4_5 => (refine Or.inl ⟨rfl, ?_⟩; intro w hSw; (try dsimp only at hSw); go_simp; try with_reducible rfl)
        try simp only [Act.put, List.setIfInBounds_toArray, List.set_cons_zero, List.set_cons_succ]
        refine wpAnyH_take (i := 5) (oi := ?oi5_6) (v := ?v5_6) ?hi5_6 (by kernel_rfl) ?hf5_6 (by kernel_rfl) ?hq5_6 ?hy5_6 hHeld ?rest5_6
        case hi5_6 => (simp only [List.getElem?_toArray, List.getElem?_cons_succ, List.getElem?_cons_zero]; try exact rfl)
        case hf5_6 => kernel_rfl
        case hq5_6 => exact fun _ _ _ h => h
        case hy5_6 => (refine Or.inl ⟨rfl, ?_⟩; intro w hSw; (try dsimp only at hSw); go_simp; try with_reducible rfl)
        try simp only [Act.put, List.setIfInBounds_toArray, List.set_cons_zero, List.set_cons_succ]
        refine wpAnyH_take (i := 6) (oi := ?oi6_7) (v := ?v6_7) ?hi6_7 (by kernel_rfl) ?hf6_7 (by kernel_rfl) ?hq6_7 ?hy6_7 hHeld ?rest6_7
        case hi6_7 => (simp only [List.getElem?_toArray, List.getElem?_cons_succ, List.getElem?_cons_zero]; try exact rfl)
        case hf6_7 => kernel_rfl
        case hq6_7 => exact fun _ _ _ h => h
        case hy6_7 => (refine Or.inl ⟨rfl, ?_⟩; intro w hSw; (try dsimp only at hSw); go_simp; try with_reducible rfl)
        try simp only [Act.put, List.setIfInBounds_toArray, List.set_cons_zero, List.set_cons_succ]
        refine wpAnyH_take (i := 7) (oi := ?oi7_8) (v := ?v7_8) ?hi7_8 (by kernel_rfl) ?hf7_8 (by kernel_rfl) ?hq7_8 ?hy7_8 hHeld ?rest7_8
        case hi7_8 => (simp only [List.getElem?_toArray, List.getElem?_cons_succ, List.getElem?_cons_zero]; try exact rfl)
        case hf7_8 => kernel_rfl
        case hq7_8 => exact fun _ _ _ h => h
        case hy7_8 => (refine yieldsIf_load_at ?_ 31 (.tmp 23) ?_ (ad2.add (k * 20)) ?_ (lnC y) _ ?_ Tryz.underlying31 rfl (by kernel_rfl) <;> first | exact fun _ h => h.2 | rfl)
        try simp only [Act.put, List.setIfInBounds_toArray, List.set_cons_zero, List.set_cons_succ]
        refine wpAnyH_ready (rs := [8]) (by kernel_rfl) (by simp) ?_
        refine AllReadyH.cons (by simp only [List.getElem?_toArray, List.getElem?_cons_succ, List.getElem?_cons_zero]; try exact rfl) (fun K hK => ?_) AllReadyH.nil
        go_simp
        refine (RSame_any x y 0 0 wr.drew (HIX.out.below (Below.refl _ _).drew) (HIY.out.below (Below.refl _ _).drew)).mono ?_
        rintro e W5 ⟨rfl, hb5⟩
        have HBW := Lib.hid (show Below wr.heap.size wr W5 from (Below.refl _ _).drew.trans hb5)
        have HB5 := Lib.hid (bt HBW.out HB.out)
        clear hb5
        by_cases heq : x.ln = y.ln
        · rw [sameL_yes heq]
          have HF := Lib.hid (show ARel a b w (.int .i64 ((k : Int) + 1)) W5 from ⟨k + 1, by rw [HN.out]; omega, by go_num, by rw [EqlW.take_next' HX.out, EqlW.take_next' HY.out, List.map_append, List.map_append, HT.out]; simp [heq], HB5.out⟩)
          clear heq
          refine hK.out _ _ ⟨fun j v hj => keepA HBW.out (HC.out j v hj), fun j v hj => keepA HBW.out (HC2.out j v hj)⟩ (fun hHeld => ?_)
          clear hK K
          try simp only [Act.put, List.setIfInBounds_toArray, List.set_cons_zero, List.set_cons_succ]
          refine wpAnyH_take (i := 9) (oi := ?oi9_9) (v := ?v9_9) ?hi9_9 (by kernel_rfl) ?hf9_9 (by kernel_rfl) ?hq9_9 ?hy9_9 hHeld ?rest9_9
          case hi9_9 => (simp only [List.getElem?_toArray, List.getElem?_cons_succ, List.getElem?_cons_zero]; try exact rfl)
          case hf9_9 => kernel_rfl
          case hq9_9 => exact fun _ _ _ h => h
          case hy9_9 => (refine Or.inl ⟨rfl, ?_⟩; intro w hSw; (try dsimp only at hSw); go_simp; try with_reducible rfl)
          try simp only [Act.put, List.setIfInBounds_toArray, List.set_cons_zero, List.set_cons_succ]
          refine wpAnyH_done (by kernel_rfl) ?_ _
          go_wp2_with fail
          exact ⟨HF.out, by simp [RowKit.intOf]; omega⟩
        · rw [sameL_no heq]
          have F := Lib.hid (all_no (a := a.map (·.ln)) (b := b.map (·.ln)) (fun e => heq (by
            have g1 : (a.map (·.ln))[k]? = some x.ln := by rw [List.getElem?_map, HX.out]; rfl
            have g2 : (b.map (·.ln))[k]? = some y.ln := by rw [List.getElem?_map, HY.out]; rfl
            rw [e, g2] at g1
            exact (Option.some.inj g1).symm)))
          clear heq
          refine hK.out _ _ ⟨fun j v hj => keepA HBW.out (HC.out j v hj), fun j v hj => keepA HBW.out (HC2.out j v hj)⟩ (fun hHeld => ?_)
          clear hK K
          try simp only [Act.put, List.setIfInBounds_toArray, List.set_cons_zero, List.set_cons_succ]
          refine wpAnyH_take (i := 9) (oi := ?oi9_10) (v := ?v9_10) ?hi9_10 (by kernel_rfl) ?hf9_10 (by kernel_rfl) ?hq9_10 ?hy9_10 hHeld ?rest9_10
          case hi9_10 => (simp only [List.getElem?_toArray, List.getElem?_cons_succ, List.getElem?_cons_zero]; try exact rfl)
          case hf9_10 => kernel_rfl
          case hq9_10 => exact fun _ _ _ h => h
          case hy9_10 => (refine Or.inl ⟨rfl, ?_⟩; intro w hSw; (try dsimp only at hSw); go_simp; try with_reducible rfl)
          try simp only [Act.put, List.setIfInBounds_toArray, List.set_cons_zero, List.set_cons_succ]
          refine wpAnyH_done (by kernel_rfl) ?_ _
          go_wp2_with fail
          go_ret
          exact ⟨by rw [F.out]; rfl, HB5.out⟩
      · have F := Lib.hid (all_yes (a := a.map (·.ln)) (b := b.map (·.ln)) (by
          have := HT.out
          rw [List.take_of_length_le (by rw [HN.out]; omega), List.take_of_length_le (by rw [HN2.out]; omega)] at this
          exact this))
        go_wp2_with fail
        go_ret
        exact ⟨by rw [F.out]; rfl, HB.out⟩
  · have F := Lib.hid (all_no (a := a.map (·.ln)) (b := b.map (·.ln)) (fun e => hlen (by have := congrArg List.length e; simpa using this)))
    obtain ⟨n, hn⟩ : ∃ n, a.length = n := ⟨_, rfl⟩
    obtain ⟨n2, hn2⟩ : ∃ n, b.length = n := ⟨_, rfl⟩
    rw [hn] at hc1 hlen ⊢
    rw [hn2] at hd1 hlen ⊢
    have hne : ((n : Int) != (n2 : Int)) = true := bne_iff_ne.2 (by omega)
    clear hlen h1 h2 hn hn2
    go_enter Tryz.func14, Tryz.ntmps14
    go_wp2_with fail
    go_ret
    exact ⟨by rw [F.out]; rfl, Below.refl _ _⟩
end Go.Proofs.YtchgfabgighbfaaGreatDoor.SamW

