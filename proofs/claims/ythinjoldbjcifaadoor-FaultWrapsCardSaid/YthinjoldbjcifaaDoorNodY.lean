/- The walk of FaultWraps. -/
import Derived.Test.YthinjoldbjcifaaDoorNodX
import Derived.Deep.RegionHeld3
namespace Go.Proofs.YthinjoldbjcifaaDoor.NodY
set_option linter.unusedVariables false
open Go.RowKit Go.WideElems Base FltM FltW FltX FltI FltH FltC FltT FltS FltL NodM PlayM NodC NodD NodS NodT NodP NodX

theorem keepA {W w1 : World} (hb : Below W.heap.size W w1) {a : Addr} {v : Value} (h : W.cell? a = some v) : w1.cell? a = some v :=
  (hb.cell (World.block_lt_of_cell? W _ h)).trans h
set_option maxHeartbeats 8000000 in
set_option maxRecDepth 100000 in
theorem FaultWraps_any (v : Value) (l : List Nd) (lo : Nat) (op : List UInt8) (at_ cl : Int) (w : World) (hG : G w) (h : Seq 6 ndC w lo w.heap.size v l) (hn : Nums l) (hat : Num at_) :
    Calls Tryd.prog 5 #[v, .string ⟨op.toArray⟩, .int .i64 at_, .int .i64 cl] w fun e w' => e = .returned (.bool true) ∧ Below w.heap.size w w' := by
  have HG := Lib.hid hG
  have HS := Lib.hid h
  clear hG h
  have hsz := sz op
  obtain ⟨p, hp⟩ : ∃ p, op.length = p := ⟨_, rfl⟩
  rw [hp] at hsz
  have HPL := Lib.hid hp
  clear hp
  cases hs : smallB l
  · go_enter Tryd.func5, Tryd.ntmps5
    go_wp2_with fail
    refine (small_any v l lo _ w HS.out).mono ?_
    rintro e w1 ⟨rfl, rfl⟩
    rw [hs]
    go_wp2_with fail
    refine (lives_any _ HG.out).mono ?_
    rintro e w1 ⟨rfl, hb⟩
    go_wp2_with fail
    go_ret
    exact ⟨rfl, hb⟩
  · by_cases hbig : (100 : Int) < (p : Int)
    · go_enter Tryd.func5, Tryd.ntmps5
      go_wp2_with fail
      refine (small_any v l lo _ w HS.out).mono ?_
      rintro e w1 ⟨rfl, rfl⟩
      rw [hs]
      go_wp2_with fail
      refine (lives_any _ HG.out).mono ?_
      rintro e w1 ⟨rfl, hb⟩
      go_wp2_with fail
      go_ret
      exact ⟨rfl, hb⟩
    · have HF := Lib.hid (small_fits hs hn)
      have HOP := Lib.hid (show op.length ≤ 100 by rw [HPL.out]; omega)
      go_enter Tryd.func5, Tryd.ntmps5
      go_wp2_with fail
      refine (small_any v l lo _ w HS.out).mono ?_
      rintro e w1 ⟨rfl, rfl⟩
      rw [hs]
      clear hs hn
      go_wp2_with fail
      refine (play_pl v l lo w HS.out HF.out.1 HF.out.2).mono ?_
      rintro e w1 ⟨⟨made, nodes, ms, ns, rfl, hp⟩, hb1⟩
      have HP := Lib.hid hp
      have HB1 := Lib.hid hb1
      have HG1 := Lib.hid (HG.out.below hb1)
      obtain ⟨A, cap, rfl, hc1, hc2, _, _⟩ := hp.sm
      obtain ⟨A2, cap2, rfl, hd1, hd2, _, _⟩ := hp.sn
      have hlen := hp.len
      have hfew := hp.few
      unfold maxLen at hc2 hd2
      clear hp hb1
      obtain ⟨q, hq⟩ : ∃ q, ms.length = q := ⟨_, rfl⟩
      have HQ := Lib.hid hq
      obtain ⟨q', hq'⟩ : ∃ q, ns.length = q := ⟨_, rfl⟩
      have HQ' := Lib.hid hq'
      rw [hq] at hlen hc1 hfew
      rw [hq'] at hlen hd1
      rw [hq, hq']
      obtain rfl := hlen
      clear hq hq'
      have H0 := Lib.hid (show HRel ms w1 (.int .i64 0) w1 from ⟨0, Nat.zero_le _, rfl, Below.refl _ _⟩)
      go_wp2_with fail
      go_loopw [12] (fun i wr => HRel ms w1 i wr) (fun i _ => q' - (NodM.intOf i).toNat)
      case atStart => exact H0.out
      case round =>
        clear H0
        obtain ⟨k, hk, rfl, hb⟩ := hrel
        rw [HQ.out] at hk
        have HB := Lib.hid hb
        clear hb
        by_cases hlt : k < q'
        · obtain ⟨ad, x, cap', e, _, _, hx, c0, hbk, hat', hrep, hfit, htl⟩ := (HP.out.up HB.out).get (k := k) (by rw [HQ.out]; exact hlt)
          have hstl := steps_le x.2
          have HAT := Lib.hid hat'
          have HREP := Lib.hid hrep
          have HFIT := Lib.hid (show fitsO (some x.2) from hfit)
          have HFW := Lib.hid (show fitsO (some (T.wrap op at_ x.2)) from ⟨HOP.out, hat, hfit⟩)
          have HSL := Lib.hid (show (stepsO (some (T.wrap op at_ x.2))).length ≤ 2000000 from by show x.2.steps.length + 1 ≤ _; omega)
          have HSL2 := Lib.hid (show x.2.steps.length ≤ 2000000 from by omega)
          obtain ⟨sl, hsl⟩ : ∃ n, x.2.steps.length = n := ⟨_, rfl⟩
          have HSN := Lib.hid hsl
          rw [hsl] at hstl
          clear hat' hrep hfit hsl
          obtain ⟨rfl, rfl⟩ : A = some ad ∧ cap = cap' := by injection e with e1 _ e2; exact ⟨e1, e2⟩
          clear e
          have PR := Lib.hid (show ∀ w', Below w1.heap.size w1 w' → Seq 6 ndC w' w.heap.size w'.heap.size (.slice A2 q' cap2) ns from fun w' hb => by have := (HP.out.up hb).sn; rw [HQ'.out] at this; exact this)
          have hbk' : (ad.add k).block < wr.heap.size := by rw [add_block]; exact hbk
          go_wp2_with fail
          refine (Wrap_some op at_ x.1 x.2 _ HAT.out).mono ?_
          rintro e w2 ⟨⟨v1, rfl, b1, rfl, h1⟩, hb2⟩
          have HAW := Lib.hid h1
          have X2 := Lib.hid (bt hb2 HB.out)
          have AT2 := Lib.hid (HAT.out.up hb2)
          have hs2 := hb2.size
          have c0b := (hb2.cell (p := ad.add k) hbk').trans c0
          clear hb2 h1
          go_wp2_with fail
          refine (Steps_any _ (some (T.wrap op at_ x.2)) _ ⟨_, rfl, HAW.out⟩ HSL.out).mono ?_
          rintro e w3 ⟨⟨r, rfl, AS, cs, rfl, hrd⟩, hb3⟩
          have hrd : Rd w3 w2.heap.size w3.heap.size 2 AS ((op, at_) :: x.2.steps).length (cellsP ((op, at_) :: x.2.steps)) := hrd
          have X3 := Lib.hid (bt hb3 X2.out)
          have AT3 := Lib.hid (AT2.out.up hb3)
          have AW3 := Lib.hid (HAW.out.up hb3)
          have hs3 := hb3.size
          have c0c := (hb3.cell (p := ad.add k) (by omega)).trans c0b
          clear hb3
          obtain ⟨ads, y, rfl, hbd, hy, d0, d1⟩ := rdP hrd (i := 0) (by simp)
          obtain rfl : (op, at_) = y := by simpa using hy
          rw [show (stepsO (some (T.wrap op at_ x.2))).length = x.2.steps.length + 1 from rfl, HSN.out]
          clear hrd hy hx c0 c0b
          go_wp2_with fail
          replace d0 : w3.cell? ads = some (.string ⟨op.toArray⟩) := d0
          replace d1 : w3.cell? ⟨ads.block, ads.off + 1, none⟩ = some (.int .i64 at_) := d1
          have hne : (x.2.code != x.2.code) = false := by simp
          -- REGION (printed by mknody.py)
          have hw1 : IntKind.i64.wrap ((sl : Int) + 1) = (sl : Int) + 1 := IntWalk.i64_in _ (by omega)
          have hw2 : (((sl + 1 : Nat) : Int) != (sl : Int) + 1) = false := by simp
          have hw3 : ((sl : Int) + 1 != (sl : Int) + 1) = false := by simp
          refine wp_region_held_drew (S := (fun w' => w'.cell? (ad.add k) = some (.pointer (some ⟨x.1, 0, none⟩)) ∧ w'.cell? ads = some (.string ⟨op.toArray⟩) ∧ w'.cell? ⟨ads.block, ads.off + 1, none⟩ = some (.int .i64 at_))) (by kernel_rfl) ?_ (fun hHeld => ?_)
          · go_keep
          refine wpAnyH_take (i := 0) (oi := ?oi0) (v := ?v0) ?hi0 (by kernel_rfl) ?hf0 (by kernel_rfl) ?hq0 ?hy0 hHeld ?rest0
          case hi0 => (simp only [List.getElem?_toArray, List.getElem?_cons_zero]; try exact rfl)
          case hf0 => kernel_rfl
          case hq0 => exact fun _ _ _ h => h
          case hy0 => (refine Or.inl ⟨rfl, ?_⟩; intro w hSw; (try dsimp only at hSw); go_simp; try with_reducible rfl)
          try simp only [Act.put, List.setIfInBounds_toArray, List.set_cons_zero, List.set_cons_succ]
          refine wpAnyH_take (i := 2) (oi := ?oi2) (v := ?v2) ?hi2 (by kernel_rfl) ?hf2 (by kernel_rfl) ?hq2 ?hy2 hHeld ?rest2
          case hi2 => (simp only [List.getElem?_toArray, List.getElem?_cons_succ, List.getElem?_cons_zero]; try exact rfl)
          case hf2 => kernel_rfl
          case hq2 => exact fun _ _ _ h => h
          case hy2 => (refine Or.inl ⟨rfl, ?_⟩; intro w hSw; (try dsimp only at hSw); go_simp; try with_reducible rfl)
          try simp only [Act.put, List.setIfInBounds_toArray, List.set_cons_zero, List.set_cons_succ]
          refine wpAnyH_take (i := 3) (oi := ?oi3) (v := ?v3) ?hi3 (by kernel_rfl) ?hf3 (by kernel_rfl) ?hq3 ?hy3 hHeld ?rest3
          case hi3 => (simp only [List.getElem?_toArray, List.getElem?_cons_succ, List.getElem?_cons_zero]; try exact rfl)
          case hf3 => kernel_rfl
          case hq3 => exact fun _ _ _ h => h
          case hy3 => (refine Or.inl ⟨rfl, ?_⟩; intro w hSw; (try dsimp only at hSw); go_simp; try with_reducible rfl)
          try simp only [Act.put, List.setIfInBounds_toArray, List.set_cons_zero, List.set_cons_succ]
          refine wpAnyH_take (i := 4) (oi := ?oi4) (v := ?v4) ?hi4 (by kernel_rfl) ?hf4 (by kernel_rfl) ?hq4 ?hy4 hHeld ?rest4
          case hi4 => (simp only [List.getElem?_toArray, List.getElem?_cons_succ, List.getElem?_cons_zero]; try exact rfl)
          case hf4 => kernel_rfl
          case hq4 => exact fun _ _ _ h => h
          case hy4 => (refine Or.inl ⟨rfl, ?_⟩; intro w hSw; (try dsimp only at hSw); go_simp; try with_reducible rfl)
          try simp only [Act.put, List.setIfInBounds_toArray, List.set_cons_zero, List.set_cons_succ]
          refine wpAnyH_take (i := 5) (oi := ?oi5) (v := ?v5) ?hi5 (by kernel_rfl) ?hf5 (by kernel_rfl) ?hq5 ?hy5 hHeld ?rest5
          case hi5 => (simp only [List.getElem?_toArray, List.getElem?_cons_succ, List.getElem?_cons_zero]; try exact rfl)
          case hf5 => kernel_rfl
          case hq5 => exact fun _ _ _ h => h
          case hy5 => (refine Or.inl ⟨rfl, ?_⟩; intro w hSw; (try dsimp only at hSw); go_simp; try with_reducible rfl)
          try simp only [Act.put, List.setIfInBounds_toArray, List.set_cons_zero, List.set_cons_succ]
          refine wpAnyH_ready (rs := [1]) (by kernel_rfl) (by simp) ?_
          refine AllReadyH.cons (by simp only [List.getElem?_toArray, List.getElem?_cons_succ, List.getElem?_cons_zero]; try exact rfl) (fun K hK => ?_) AllReadyH.nil
          go_simp
          refine (Code_any _ (some (T.wrap op at_ x.2)) _ ((HG1.out.below X3.out.drew)) ⟨_, rfl, AW3.out.up (Below.refl _ _).drew⟩ HFW.out).mono ?_; rintro e w4 ⟨rfl, hb4⟩; rw [show codeO (some (T.wrap op at_ x.2)) = x.2.code from rfl]; have X4 := Lib.hid (bt hb4 X3.out.drew); have AT4 := Lib.hid ((AT3.out.up (Below.refl _ _).drew).up hb4); have AW4 := Lib.hid ((AW3.out.up (Below.refl _ _).drew).up hb4); have k4 := keepA hb4 hHeld.1; have m4 := keepA hb4 hHeld.2.1; have p4 := keepA hb4 hHeld.2.2
          try go_wp2_with fail
          refine hK.out _ _ ?_ (fun hHeld => ?_)
          · exact ⟨k4, m4, p4⟩
          clear hK K
          try simp only [Act.put, List.setIfInBounds_toArray, List.set_cons_zero, List.set_cons_succ]
          refine wpAnyH_ready (rs := [6]) (by kernel_rfl) (by simp) ?_
          refine AllReadyH.cons (by simp only [List.getElem?_toArray, List.getElem?_cons_succ, List.getElem?_cons_zero]; try exact rfl) (fun K hK => ?_) AllReadyH.nil
          go_simp
          refine (Code_any _ (some x.2) _ ((HG1.out.below X4.out)) ⟨_, rfl, AT4.out⟩ HFIT.out).mono ?_; rintro e w5 ⟨rfl, hb5⟩; rw [show codeO (some x.2) = x.2.code from rfl]; have X5 := Lib.hid (bt hb5 X4); have AT5 := Lib.hid (AT4.out.up hb5); have AW5 := Lib.hid (AW4.out.up hb5); have k5 := keepA hb5 hHeld.1; have m5 := keepA hb5 hHeld.2.1; have p5 := keepA hb5 hHeld.2.2
          try go_wp2_with fail
          refine hK.out _ _ ?_ (fun hHeld => ?_)
          · exact ⟨k5, m5, p5⟩
          clear hK K
          try simp only [Act.put, List.setIfInBounds_toArray, List.set_cons_zero, List.set_cons_succ]
          refine wpAnyH_take (i := 7) (oi := ?oi7) (v := ?v7) ?hi7 (by kernel_rfl) ?hf7 (by kernel_rfl) ?hq7 ?hy7 hHeld ?rest7
          case hi7 => (simp only [List.getElem?_toArray, List.getElem?_cons_succ, List.getElem?_cons_zero]; try exact rfl)
          case hf7 => kernel_rfl
          case hq7 => exact fun _ _ _ h => h
          case hy7 => (refine Or.inl ⟨rfl, ?_⟩; intro w hSw; (try dsimp only at hSw); go_simp; try with_reducible rfl)
          try simp only [Act.put, List.setIfInBounds_toArray, List.set_cons_zero, List.set_cons_succ]
          refine wpAnyH_take (i := 8) (oi := ?oi8) (v := ?v8) ?hi8 (by kernel_rfl) ?hf8 (by kernel_rfl) ?hq8 ?hy8 hHeld ?rest8
          case hi8 => (simp only [List.getElem?_toArray, List.getElem?_cons_succ, List.getElem?_cons_zero]; try exact rfl)
          case hf8 => kernel_rfl
          case hq8 => exact fun _ _ _ h => h
          case hy8 => (refine Or.inl ⟨rfl, ?_⟩; intro w hSw; (try dsimp only at hSw); go_simp; try with_reducible rfl)
          try simp only [Act.put, List.setIfInBounds_toArray, List.set_cons_zero, List.set_cons_succ]
          refine wpAnyH_take (i := 9) (oi := ?oi9) (v := ?v9) ?hi9 (by kernel_rfl) ?hf9 (by kernel_rfl) ?hq9 ?hy9 hHeld ?rest9
          case hi9 => (simp only [List.getElem?_toArray, List.getElem?_cons_succ, List.getElem?_cons_zero]; try exact rfl)
          case hf9 => kernel_rfl
          case hq9 => exact fun _ _ _ h => h
          case hy9 => (refine Or.inl ⟨rfl, ?_⟩; intro w hSw; (try dsimp only at hSw); go_simp; try with_reducible rfl)
          try simp only [Act.put, List.setIfInBounds_toArray, List.set_cons_zero, List.set_cons_succ]
          refine wpAnyH_take (i := 10) (oi := ?oi10) (v := ?v10) ?hi10 (by kernel_rfl) ?hf10 (by kernel_rfl) ?hq10 ?hy10 hHeld ?rest10
          case hi10 => (simp only [List.getElem?_toArray, List.getElem?_cons_succ, List.getElem?_cons_zero]; try exact rfl)
          case hf10 => kernel_rfl
          case hq10 => exact fun _ _ _ h => h
          case hy10 => (refine Or.inl ⟨rfl, ?_⟩; intro w hSw; (try dsimp only at hSw); go_simp; try with_reducible rfl)
          try simp only [Act.put, List.setIfInBounds_toArray, List.set_cons_zero, List.set_cons_succ]
          refine wpAnyH_take (i := 12) (oi := ?oi12) (v := ?v12) ?hi12 (by kernel_rfl) ?hf12 (by kernel_rfl) ?hq12 ?hy12 hHeld ?rest12
          case hi12 => (simp only [List.getElem?_toArray, List.getElem?_cons_succ, List.getElem?_cons_zero]; try exact rfl)
          case hf12 => kernel_rfl
          case hq12 => exact fun _ _ _ h => h
          case hy12 => (refine Or.inl ⟨rfl, ?_⟩; intro w hSw; (try dsimp only at hSw); go_simp; try with_reducible rfl)
          try simp only [Act.put, List.setIfInBounds_toArray, List.set_cons_zero, List.set_cons_succ]
          refine wpAnyH_take (i := 13) (oi := ?oi13) (v := ?v13) ?hi13 (by kernel_rfl) ?hf13 (by kernel_rfl) ?hq13 ?hy13 hHeld ?rest13
          case hi13 => (simp only [List.getElem?_toArray, List.getElem?_cons_succ, List.getElem?_cons_zero]; try exact rfl)
          case hf13 => kernel_rfl
          case hq13 => exact fun _ _ _ h => h
          case hy13 => (refine Or.inl ⟨rfl, ?_⟩; intro w hSw; (try dsimp only at hSw); go_simp; try with_reducible rfl)
          try simp only [Act.put, List.setIfInBounds_toArray, List.set_cons_zero, List.set_cons_succ]
          refine wpAnyH_take (i := 14) (oi := ?oi14) (v := ?v14) ?hi14 (by kernel_rfl) ?hf14 (by kernel_rfl) ?hq14 ?hy14 hHeld ?rest14
          case hi14 => (simp only [List.getElem?_toArray, List.getElem?_cons_succ, List.getElem?_cons_zero]; try exact rfl)
          case hf14 => kernel_rfl
          case hq14 => exact fun _ _ _ h => h
          case hy14 => (refine Or.inl ⟨rfl, ?_⟩; intro w hSw; (try dsimp only at hSw); go_simp; try with_reducible rfl)
          try simp only [Act.put, List.setIfInBounds_toArray, List.set_cons_zero, List.set_cons_succ]
          refine wpAnyH_take (i := 15) (oi := ?oi15) (v := ?v15) ?hi15 (by kernel_rfl) ?hf15 (by kernel_rfl) ?hq15 ?hy15 hHeld ?rest15
          case hi15 => (simp only [List.getElem?_toArray, List.getElem?_cons_succ, List.getElem?_cons_zero]; try exact rfl)
          case hf15 => kernel_rfl
          case hq15 => exact fun _ _ _ h => h
          case hy15 => (refine Or.inl ⟨rfl, ?_⟩; intro w hSw; (try dsimp only at hSw); go_simp; try with_reducible rfl)
          try simp only [Act.put, List.setIfInBounds_toArray, List.set_cons_zero, List.set_cons_succ]
          refine wpAnyH_take (i := 16) (oi := ?oi16) (v := ?v16) ?hi16 (by kernel_rfl) ?hf16 (by kernel_rfl) ?hq16 ?hy16 hHeld ?rest16
          case hi16 => (simp only [List.getElem?_toArray, List.getElem?_cons_succ, List.getElem?_cons_zero]; try exact rfl)
          case hf16 => kernel_rfl
          case hq16 => exact fun _ _ _ h => h
          case hy16 => (refine Or.inl ⟨rfl, ?_⟩; intro w hSw; (try dsimp only at hSw); go_simp; try with_reducible rfl)
          try simp only [Act.put, List.setIfInBounds_toArray, List.set_cons_zero, List.set_cons_succ]
          refine wpAnyH_ready (rs := [11]) (by kernel_rfl) (by simp) ?_
          refine AllReadyH.cons (by simp only [List.getElem?_toArray, List.getElem?_cons_succ, List.getElem?_cons_zero]; try exact rfl) (fun K hK => ?_) AllReadyH.nil
          go_simp
          refine (Of_any _ (some (T.wrap op at_ x.2)) cl _ ⟨_, rfl, AW5.out⟩ HFW.out).mono ?_; rintro e w6 ⟨rfl, hb6⟩; rw [show ofO (some (T.wrap op at_ x.2)) cl = ofO (some x.2) cl from rfl]; have X6 := Lib.hid (bt hb6 X5); have AT6 := Lib.hid (AT5.out.up hb6); have AW6 := Lib.hid (AW5.out.up hb6); have k6 := keepA hb6 hHeld.1; have m6 := keepA hb6 hHeld.2.1; have p6 := keepA hb6 hHeld.2.2
          try go_wp2_with fail
          refine hK.out _ _ ?_ (fun hHeld => ?_)
          · exact ⟨k6, m6, p6⟩
          clear hK K
          try simp only [Act.put, List.setIfInBounds_toArray, List.set_cons_zero, List.set_cons_succ]
          refine wpAnyH_ready (rs := [17]) (by kernel_rfl) (by simp) ?_
          refine AllReadyH.cons (by simp only [List.getElem?_toArray, List.getElem?_cons_succ, List.getElem?_cons_zero]; try exact rfl) (fun K hK => ?_) AllReadyH.nil
          go_simp
          refine (Of_any _ (some x.2) cl _ ⟨_, rfl, AT6.out⟩ HFIT.out).mono ?_; rintro e w7 ⟨rfl, hb7⟩; have X7 := Lib.hid (bt hb7 X6); have AT7 := Lib.hid (AT6.out.up hb7); have AW7 := Lib.hid (AW6.out.up hb7); have k7 := keepA hb7 hHeld.1; have m7 := keepA hb7 hHeld.2.1; have p7 := keepA hb7 hHeld.2.2
          try go_wp2_with fail
          refine hK.out _ _ ?_ (fun hHeld => ?_)
          · exact ⟨k7, m7, p7⟩
          clear hK K
          try simp only [Act.put, List.setIfInBounds_toArray, List.set_cons_zero, List.set_cons_succ]
          refine wpAnyH_take (i := 18) (oi := ?oi18) (v := ?v18) ?hi18 (by kernel_rfl) ?hf18 (by kernel_rfl) ?hq18 ?hy18 hHeld ?rest18
          case hi18 => (simp only [List.getElem?_toArray, List.getElem?_cons_succ, List.getElem?_cons_zero]; try exact rfl)
          case hf18 => kernel_rfl
          case hq18 => exact fun _ _ _ h => h
          case hy18 => (refine Or.inl ⟨rfl, ?_⟩; intro w hSw; (try dsimp only at hSw); go_simp; try with_reducible rfl)
          try simp only [Act.put, List.setIfInBounds_toArray, List.set_cons_zero, List.set_cons_succ]
          refine wpAnyH_take (i := 19) (oi := ?oi19) (v := ?v19) ?hi19 (by kernel_rfl) ?hf19 (by kernel_rfl) ?hq19 ?hy19 hHeld ?rest19
          case hi19 => (simp only [List.getElem?_toArray, List.getElem?_cons_succ, List.getElem?_cons_zero]; try exact rfl)
          case hf19 => kernel_rfl
          case hq19 => exact fun _ _ _ h => h
          case hy19 => (refine Or.inl ⟨rfl, ?_⟩; intro w hSw; (try dsimp only at hSw); go_simp; try with_reducible rfl)
          try simp only [Act.put, List.setIfInBounds_toArray, List.set_cons_zero, List.set_cons_succ]
          refine wpAnyH_take (i := 20) (oi := ?oi20) (v := ?v20) ?hi20 (by kernel_rfl) ?hf20 (by kernel_rfl) ?hq20 ?hy20 hHeld ?rest20
          case hi20 => (simp only [List.getElem?_toArray, List.getElem?_cons_succ, List.getElem?_cons_zero]; try exact rfl)
          case hf20 => kernel_rfl
          case hq20 => exact fun _ _ _ h => h
          case hy20 => (refine Or.inl ⟨rfl, ?_⟩; intro w hSw; (try dsimp only at hSw); go_simp; try with_reducible rfl)
          try simp only [Act.put, List.setIfInBounds_toArray, List.set_cons_zero, List.set_cons_succ]
          refine wpAnyH_take (i := 21) (oi := ?oi21) (v := ?v21) ?hi21 (by kernel_rfl) ?hf21 (by kernel_rfl) ?hq21 ?hy21 hHeld ?rest21
          case hi21 => (simp only [List.getElem?_toArray, List.getElem?_cons_succ, List.getElem?_cons_zero]; try exact rfl)
          case hf21 => kernel_rfl
          case hq21 => exact fun _ _ _ h => h
          case hy21 => (refine Or.inl ⟨rfl, ?_⟩; intro w hSw; (try dsimp only at hSw); go_simp; try with_reducible rfl)
          try simp only [Act.put, List.setIfInBounds_toArray, List.set_cons_zero, List.set_cons_succ]
          refine wpAnyH_take (i := 22) (oi := ?oi22) (v := ?v22) ?hi22 (by kernel_rfl) ?hf22 (by kernel_rfl) ?hq22 ?hy22 hHeld ?rest22
          case hi22 => (simp only [List.getElem?_toArray, List.getElem?_cons_succ, List.getElem?_cons_zero]; try exact rfl)
          case hf22 => kernel_rfl
          case hq22 => exact fun _ _ _ h => h
          case hy22 => (refine Or.inl ⟨rfl, ?_⟩; intro w hSw; (try dsimp only at hSw); go_simp; try with_reducible rfl)
          try simp only [Act.put, List.setIfInBounds_toArray, List.set_cons_zero, List.set_cons_succ]
          refine wpAnyH_take (i := 23) (oi := ?oi23) (v := ?v23) ?hi23 (by kernel_rfl) ?hf23 (by kernel_rfl) ?hq23 ?hy23 hHeld ?rest23
          case hi23 => (simp only [List.getElem?_toArray, List.getElem?_cons_succ, List.getElem?_cons_zero]; try exact rfl)
          case hf23 => kernel_rfl
          case hq23 => exact fun _ _ _ h => h
          case hy23 => (refine Or.inl ⟨rfl, ?_⟩; intro w hSw; (try dsimp only at hSw); go_simp; try with_reducible rfl)
          try simp only [Act.put, List.setIfInBounds_toArray, List.set_cons_zero, List.set_cons_succ]
          refine wpAnyH_take (i := 24) (oi := ?oi24) (v := ?v24) ?hi24 (by kernel_rfl) ?hf24 (by kernel_rfl) ?hq24 ?hy24 hHeld ?rest24
          case hi24 => (simp only [List.getElem?_toArray, List.getElem?_cons_succ, List.getElem?_cons_zero]; try exact rfl)
          case hf24 => kernel_rfl
          case hq24 => exact fun _ _ _ h => h
          case hy24 => (refine Or.inl ⟨rfl, ?_⟩; intro w hSw; (try dsimp only at hSw); go_simp; try with_reducible rfl)
          try simp only [Act.put, List.setIfInBounds_toArray, List.set_cons_zero, List.set_cons_succ]
          refine wpAnyH_ready (rs := [25]) (by kernel_rfl) (by simp) ?_
          refine AllReadyH.cons (by simp only [List.getElem?_toArray, List.getElem?_cons_succ, List.getElem?_cons_zero]; try exact rfl) (fun K hK => ?_) AllReadyH.nil
          go_simp
          refine (RSteps_at _ ns _ x.2 k _ (PR.out _ X7.out) HREP.out HSL2.out).mono ?_; rintro e w8 ⟨⟨r, rfl, hro⟩, hb8⟩; obtain ⟨AC, cc, rfl, hcc1, hcc2, _, _⟩ := Seq.of_own (f := fun x : List UInt8 × Int => [.string ⟨x.1.toArray⟩, .int .i64 x.2]) hro; rw [HSN.out]; have X8 := Lib.hid (bt hb8 X7); have AT8 := Lib.hid (AT7.out.up hb8); have AW8 := Lib.hid (AW7.out.up hb8); have k8 := keepA hb8 hHeld.1; have m8 := keepA hb8 hHeld.2.1; have p8 := keepA hb8 hHeld.2.2
          try go_wp2_with fail
          refine hK.out _ _ ?_ (fun hHeld => ?_)
          · exact ⟨k8, m8, p8⟩
          clear hK K
          try simp only [Act.put, List.setIfInBounds_toArray, List.set_cons_zero, List.set_cons_succ]
          refine wpAnyH_take (i := 26) (oi := ?oi26) (v := ?v26) ?hi26 (by kernel_rfl) ?hf26 (by kernel_rfl) ?hq26 ?hy26 hHeld ?rest26
          case hi26 => (simp only [List.getElem?_toArray, List.getElem?_cons_succ, List.getElem?_cons_zero]; try exact rfl)
          case hf26 => kernel_rfl
          case hq26 => exact fun _ _ _ h => h
          case hy26 => (refine Or.inl ⟨rfl, ?_⟩; intro w hSw; (try dsimp only at hSw); go_simp; try with_reducible rfl)
          try simp only [Act.put, List.setIfInBounds_toArray, List.set_cons_zero, List.set_cons_succ]
          refine wpAnyH_take (i := 27) (oi := ?oi27) (v := ?v27) ?hi27 (by kernel_rfl) ?hf27 (by kernel_rfl) ?hq27 ?hy27 hHeld ?rest27
          case hi27 => (simp only [List.getElem?_toArray, List.getElem?_cons_succ, List.getElem?_cons_zero]; try exact rfl)
          case hf27 => kernel_rfl
          case hq27 => exact fun _ _ _ h => h
          case hy27 => (refine Or.inl ⟨rfl, ?_⟩; intro w hSw; (try dsimp only at hSw); go_simp; try with_reducible rfl)
          try simp only [Act.put, List.setIfInBounds_toArray, List.set_cons_zero, List.set_cons_succ]
          refine wpAnyH_take (i := 28) (oi := ?oi28) (v := ?v28) ?hi28 (by kernel_rfl) ?hf28 (by kernel_rfl) ?hq28 ?hy28 hHeld ?rest28
          case hi28 => (simp only [List.getElem?_toArray, List.getElem?_cons_succ, List.getElem?_cons_zero]; try exact rfl)
          case hf28 => kernel_rfl
          case hq28 => exact fun _ _ _ h => h
          case hy28 => (refine Or.inl ⟨rfl, ?_⟩; intro w hSw; (try dsimp only at hSw); go_simp; try with_reducible rfl)
          try simp only [Act.put, List.setIfInBounds_toArray, List.set_cons_zero, List.set_cons_succ]
          refine wpAnyH_take (i := 29) (oi := ?oi29) (v := ?v29) ?hi29 (by kernel_rfl) ?hf29 (by kernel_rfl) ?hq29 ?hy29 hHeld ?rest29
          case hi29 => (simp only [List.getElem?_toArray, List.getElem?_cons_succ, List.getElem?_cons_zero]; try exact rfl)
          case hf29 => kernel_rfl
          case hq29 => exact fun _ _ _ h => h
          case hy29 => (refine Or.inl ⟨rfl, ?_⟩; intro w hSw; (try dsimp only at hSw); go_simp; try with_reducible rfl)
          try simp only [Act.put, List.setIfInBounds_toArray, List.set_cons_zero, List.set_cons_succ]
          refine wpAnyH_take (i := 30) (oi := ?oi30) (v := ?v30) ?hi30 (by kernel_rfl) ?hf30 (by kernel_rfl) ?hq30 ?hy30 hHeld ?rest30
          case hi30 => (simp only [List.getElem?_toArray, List.getElem?_cons_succ, List.getElem?_cons_zero]; try exact rfl)
          case hf30 => kernel_rfl
          case hq30 => exact fun _ _ _ h => h
          case hy30 => (refine Or.inl ⟨rfl, ?_⟩; intro w hSw; (try dsimp only at hSw); go_simp; try with_reducible rfl)
          try simp only [Act.put, List.setIfInBounds_toArray, List.set_cons_zero, List.set_cons_succ]
          refine wpAnyH_take (i := 31) (oi := ?oi31) (v := ?v31) ?hi31 (by kernel_rfl) ?hf31 (by kernel_rfl) ?hq31 ?hy31 hHeld ?rest31
          case hi31 => (simp only [List.getElem?_toArray, List.getElem?_cons_succ, List.getElem?_cons_zero]; try exact rfl)
          case hf31 => kernel_rfl
          case hq31 => exact fun _ _ _ h => h
          case hy31 => (refine Or.inl ⟨rfl, ?_⟩; intro w hSw; (try dsimp only at hSw); go_simp; try with_reducible rfl)
          try simp only [Act.put, List.setIfInBounds_toArray, List.set_cons_zero, List.set_cons_succ]
          refine wpAnyH_take (i := 32) (oi := ?oi32) (v := ?v32) ?hi32 (by kernel_rfl) ?hf32 (by kernel_rfl) ?hq32 ?hy32 hHeld ?rest32
          case hi32 => (simp only [List.getElem?_toArray, List.getElem?_cons_succ, List.getElem?_cons_zero]; try exact rfl)
          case hf32 => kernel_rfl
          case hq32 => exact fun _ _ _ h => h
          case hy32 => (refine Or.inl ⟨rfl, ?_⟩; intro w hSw; (try dsimp only at hSw); go_simp; try with_reducible rfl)
          try simp only [Act.put, List.setIfInBounds_toArray, List.set_cons_zero, List.set_cons_succ]
          refine wpAnyH_take (i := 33) (oi := ?oi33) (v := ?v33) ?hi33 (by kernel_rfl) ?hf33 (by kernel_rfl) ?hq33 ?hy33 hHeld ?rest33
          case hi33 => (simp only [List.getElem?_toArray, List.getElem?_cons_succ, List.getElem?_cons_zero]; try exact rfl)
          case hf33 => kernel_rfl
          case hq33 => exact fun _ _ _ h => h
          case hy33 => (refine Or.inl ⟨rfl, ?_⟩; intro w hSw; (try dsimp only at hSw); go_simp; try with_reducible rfl)
          try simp only [Act.put, List.setIfInBounds_toArray, List.set_cons_zero, List.set_cons_succ]
          refine wpAnyH_take (i := 34) (oi := ?oi34) (v := ?v34) ?hi34 (by kernel_rfl) ?hf34 (by kernel_rfl) ?hq34 ?hy34 hHeld ?rest34
          case hi34 => (simp only [List.getElem?_toArray, List.getElem?_cons_succ, List.getElem?_cons_zero]; try exact rfl)
          case hf34 => kernel_rfl
          case hq34 => exact fun _ _ _ h => h
          case hy34 => (refine Or.inl ⟨rfl, ?_⟩; intro w hSw; (try dsimp only at hSw); go_simp; try with_reducible rfl)
          try simp only [Act.put, List.setIfInBounds_toArray, List.set_cons_zero, List.set_cons_succ]
          refine wpAnyH_take (i := 35) (oi := ?oi35) (v := ?v35) ?hi35 (by kernel_rfl) ?hf35 (by kernel_rfl) ?hq35 ?hy35 hHeld ?rest35
          case hi35 => (simp only [List.getElem?_toArray, List.getElem?_cons_succ, List.getElem?_cons_zero]; try exact rfl)
          case hf35 => kernel_rfl
          case hq35 => exact fun _ _ _ h => h
          case hy35 => (refine Or.inl ⟨rfl, ?_⟩; intro w hSw; (try dsimp only at hSw); go_simp; try with_reducible rfl)
          try simp only [Act.put, List.setIfInBounds_toArray, List.set_cons_zero, List.set_cons_succ]
          refine wpAnyH_take (i := 36) (oi := ?oi36) (v := ?v36) ?hi36 (by kernel_rfl) ?hf36 (by kernel_rfl) ?hq36 ?hy36 hHeld ?rest36
          case hi36 => (simp only [List.getElem?_toArray, List.getElem?_cons_succ, List.getElem?_cons_zero]; try exact rfl)
          case hf36 => kernel_rfl
          case hq36 => exact fun _ _ _ h => h
          case hy36 => (refine Or.inl ⟨rfl, ?_⟩; intro w hSw; (try dsimp only at hSw); go_simp; try with_reducible rfl)
          try simp only [Act.put, List.setIfInBounds_toArray, List.set_cons_zero, List.set_cons_succ]
          refine wpAnyH_take (i := 37) (oi := ?oi37) (v := ?v37) ?hi37 (by kernel_rfl) ?hf37 (by kernel_rfl) ?hq37 ?hy37 hHeld ?rest37
          case hi37 => (simp only [List.getElem?_toArray, List.getElem?_cons_succ, List.getElem?_cons_zero]; try exact rfl)
          case hf37 => kernel_rfl
          case hq37 => exact fun _ _ _ h => h
          case hy37 => (refine Or.inl ⟨rfl, ?_⟩; intro w hSw; (try dsimp only at hSw); go_simp; try with_reducible rfl)
          try simp only [Act.put, List.setIfInBounds_toArray, List.set_cons_zero, List.set_cons_succ]
          refine wpAnyH_take (i := 38) (oi := ?oi38) (v := ?v38) ?hi38 (by kernel_rfl) ?hf38 (by kernel_rfl) ?hq38 ?hy38 hHeld ?rest38
          case hi38 => (simp only [List.getElem?_toArray, List.getElem?_cons_succ, List.getElem?_cons_zero]; try exact rfl)
          case hf38 => kernel_rfl
          case hq38 => exact fun _ _ _ h => h
          case hy38 => (refine Or.inl ⟨rfl, ?_⟩; intro w hSw; (try dsimp only at hSw); go_simp; try with_reducible rfl)
          try simp only [Act.put, List.setIfInBounds_toArray, List.set_cons_zero, List.set_cons_succ]
          refine wpAnyH_done (by kernel_rfl) ?_ _
          have X9 := Lib.hid (bt hb8 X7.out)
          clear hb4 hb5 hb6 hb7 hb8 hHeld
          go_wp2_with fail
          exact ⟨⟨k + 1, by rw [HQ.out]; omega, by go_num, X9.out⟩, by simp [NodM.intOf]; omega⟩
        · go_wp2_with fail
          refine (lives_any _ (HG1.out.below HB.out)).mono ?_
          rintro e w9 ⟨rfl, hb9⟩
          have X9 := Lib.hid (bt (bt hb9 HB.out) HB1.out)
          clear hb9
          go_wp2_with fail
          go_ret
          exact ⟨rfl, X9.out⟩
end Go.Proofs.YthinjoldbjcifaaDoor.NodY
