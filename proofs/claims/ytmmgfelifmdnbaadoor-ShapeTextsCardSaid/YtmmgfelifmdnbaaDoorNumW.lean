/- shape's reader: a number. -/
import Derived.Test.YtmmgfelifmdnbaaDoorRdrW
namespace Go.Proofs.YtmmgfelifmdnbaaDoor.NumW
set_option linter.unusedVariables false
open Go.RowKit Go.Shelf Base SeqM ShpM ShpT ItrD TxtM GlbS WrtM RdrW

set_option maxHeartbeats 8000000 in
set_option maxRecDepth 100000 in
theorem number_any (rb : Nat) (s : List UInt8) (ok : Bool) (w : World) (h : RAt w rb s ok) (hlen : s.length ≤ 1000000) (hG : G w) :
    Calls Tryd.prog 44 #[.pointer (some ⟨rb, 0, none⟩)] w fun e w' => e = .returned (.int .i64 (numM s ok).1) ∧ RAt w' rb (numM s ok).2.1 (numM s ok).2.2 ∧ KR rb w w' := by
  obtain ⟨c0, c1, hf⟩ := h.cells
  have H := Lib.hid h
  have HG := Lib.hid hG
  have hlt := (Array.getElem?_eq_some_iff.1 h).1
  have hnl := numP_le s
  obtain ⟨n, hn⟩ : ∃ n, (numP s).length = n := ⟨_, rfl⟩
  obtain ⟨sl, hsl⟩ : ∃ sl, s.length = sl := ⟨_, rfl⟩
  have HNP := Lib.hid hn
  have HSL := Lib.hid hsl
  have HIN := Lib.hid (fun k (hk : k < n) => numP_in s (k := k) (by rw [hn]; exact hk))
  have HEND := Lib.hid (numP_end s)
  have HCUT := Lib.hid (show (⟨s.toArray⟩ : ByteArray).extract 0 n = ⟨(numP s).toArray⟩ by rw [cut_to, ← hn, numP_pre])
  have HREST := Lib.hid (show (⟨s.toArray⟩ : ByteArray).extract n sl = ⟨(s.drop n).toArray⟩ by rw [← hsl]; exact cut_from s n)
  have hss : s.toArray.size = sl := by simpa using hsl
  rw [hn] at hnl HEND
  rw [hsl] at hnl hlen HEND
  have HIX := Lib.hid (fun (k : Nat) (c : UInt8) (hc : s[k]? = some c) (hh : k < (⟨s.toArray⟩ : ByteArray).size) => show (⟨s.toArray⟩ : ByteArray)[k]'hh = c from by
    obtain ⟨h1, h2⟩ := List.getElem?_eq_some_iff.1 hc
    exact h2)
  clear h hn hsl hG
  go_enter Tryd.func44, Tryd.ntmps44
  go_wp2_with fail
  go_loopw [3] (fun i wr => NmRel s w i wr) (fun i _ => n - (intOf i).toNat)
  case atStart => exact ⟨0, Nat.zero_le _, rfl, rfl⟩
  case round =>
    obtain ⟨k, hk, rfl, rfl⟩ := hrel
    rw [HNP.out] at hk
    by_cases hkn : k = n
    · subst hkn
      rcases HEND.out with he | ⟨c, hc, hd, hcc⟩
      · have hkl : ¬ k < sl := by omega
        clear he
        go_wp2_with fail
        by_cases hA : ∃ v, Lib.atoiAll (numP s) = .ok v
        · obtain ⟨v, hv⟩ := hA
          have hvb := Lib.atoiAll_bounds hv
          refine (Atoi_yes _ _ (by rw [HCUT.out]; show (numP s).toArray.size ≤ _; rw [List.size_toArray, HNP.out]; omega) v (by rw [HCUT.out]; exact hv)).mono ?_
          rintro e W1 ⟨rfl, hb1⟩
          have HB1 := Lib.hid hb1
          have HV := Lib.hid hv
          have hr1 := H.out.below hb1
          have HR1 := Lib.hid hr1
          have hz1 := hb1.size
          clear c0 c1 hf hb1 hv
          obtain ⟨c0, c1, hf⟩ := hr1.cells
          have lt1 := (Array.getElem?_eq_some_iff.1 hr1).1
          clear hr1
          by_cases hvi : Lib.itoa v = numP s
          · have hbq : (Lib.itoa v == ((⟨s.toArray⟩ : ByteArray).extract 0 k).toList) = true := by rw [HCUT.out, show (⟨(numP s).toArray⟩ : ByteArray).toList = numP s by simp]; exact beq_iff_eq.2 hvi
            have F := Lib.hid (numM_yes (ok := ok) HV.out hvi)
            clear hvi
            go_wp2_with fail
            refine wp_region_held_drew (S := fun w' => w'.cell? ⟨rb, 0, none⟩ = some (.string ⟨s.toArray⟩)) (by kernel_rfl) ?_ (fun hHeld => ?_)
            · exact c0
            refine wpAnyH_take (i := 0) (oi := ?oi0_1) (v := ?v0_1) ?hi0_1 (by kernel_rfl) ?hf0_1 (by kernel_rfl) ?hq0_1 ?hy0_1 hHeld ?rest0_1
            case hi0_1 => (simp only [List.getElem?_toArray, List.getElem?_cons_zero]; try exact rfl)
            case hf0_1 => kernel_rfl
            case hq0_1 => exact fun _ _ _ h => h
            case hy0_1 => (refine Or.inl ⟨rfl, ?_⟩; intro w hSw; (try dsimp only at hSw); go_simp; try with_reducible rfl)
            try simp only [Act.put, List.setIfInBounds_toArray, List.set_cons_zero, List.set_cons_succ]
            refine wpAnyH_take (i := 1) (oi := ?oi1_2) (v := ?v1_2) ?hi1_2 (by kernel_rfl) ?hf1_2 (by kernel_rfl) ?hq1_2 ?hy1_2 hHeld ?rest1_2
            case hi1_2 => (simp only [List.getElem?_toArray, List.getElem?_cons_succ, List.getElem?_cons_zero]; try exact rfl)
            case hf1_2 => kernel_rfl
            case hq1_2 => exact fun _ _ _ h => h
            case hy1_2 => (refine Or.inl ⟨rfl, ?_⟩; intro w hSw; (try dsimp only at hSw); go_simp; try with_reducible rfl)
            try simp only [Act.put, List.setIfInBounds_toArray, List.set_cons_zero, List.set_cons_succ]
            refine wpAnyH_take (i := 2) (oi := ?oi2_3) (v := ?v2_3) ?hi2_3 (by kernel_rfl) ?hf2_3 (by kernel_rfl) ?hq2_3 ?hy2_3 hHeld ?rest2_3
            case hi2_3 => (simp only [List.getElem?_toArray, List.getElem?_cons_succ, List.getElem?_cons_zero]; try exact rfl)
            case hf2_3 => kernel_rfl
            case hq2_3 => exact fun _ _ _ h => h
            case hy2_3 => (refine Or.inl ⟨rfl, ?_⟩; intro w hSw; (try dsimp only at hSw); go_simp; try with_reducible rfl)
            try simp only [Act.put, List.setIfInBounds_toArray, List.set_cons_zero, List.set_cons_succ]
            refine wpAnyH_take (i := 3) (oi := ?oi3_4) (v := ?v3_4) ?hi3_4 (by kernel_rfl) ?hf3_4 (by kernel_rfl) ?hq3_4 ?hy3_4 hHeld ?rest3_4
            case hi3_4 => (simp only [List.getElem?_toArray, List.getElem?_cons_succ, List.getElem?_cons_zero]; try exact rfl)
            case hf3_4 => kernel_rfl
            case hq3_4 => exact fun _ _ _ h => h
            case hy3_4 => (refine Or.inl ⟨rfl, ?_⟩; intro w hSw; (try dsimp only at hSw); go_simp; try with_reducible rfl)
            try simp only [Act.put, List.setIfInBounds_toArray, List.set_cons_zero, List.set_cons_succ]
            refine wpAnyH_take (i := 5) (oi := ?oi5_5) (v := ?v5_5) ?hi5_5 (by kernel_rfl) ?hf5_5 (by kernel_rfl) ?hq5_5 ?hy5_5 hHeld ?rest5_5
            case hi5_5 => (simp only [List.getElem?_toArray, List.getElem?_cons_succ, List.getElem?_cons_zero]; try exact rfl)
            case hf5_5 => kernel_rfl
            case hq5_5 => exact fun _ _ _ h => h
            case hy5_5 => (refine Or.inl ⟨rfl, ?_⟩; intro w hSw; (try dsimp only at hSw); go_simp; try with_reducible rfl)
            try simp only [Act.put, List.setIfInBounds_toArray, List.set_cons_zero, List.set_cons_succ]
            refine wpAnyH_take (i := 6) (oi := ?oi6_6) (v := ?v6_6) ?hi6_6 (by kernel_rfl) ?hf6_6 (by kernel_rfl) ?hq6_6 ?hy6_6 hHeld ?rest6_6
            case hi6_6 => (simp only [List.getElem?_toArray, List.getElem?_cons_succ, List.getElem?_cons_zero]; try exact rfl)
            case hf6_6 => kernel_rfl
            case hq6_6 => exact fun _ _ _ h => h
            case hy6_6 => (refine Or.inl ⟨rfl, ?_⟩; intro w hSw; (try dsimp only at hSw); go_simp; try with_reducible rfl)
            try simp only [Act.put, List.setIfInBounds_toArray, List.set_cons_zero, List.set_cons_succ]
            refine wpAnyH_take (i := 7) (oi := ?oi7_7) (v := ?v7_7) ?hi7_7 (by kernel_rfl) ?hf7_7 (by kernel_rfl) ?hq7_7 ?hy7_7 hHeld ?rest7_7
            case hi7_7 => (simp only [List.getElem?_toArray, List.getElem?_cons_succ, List.getElem?_cons_zero]; try exact rfl)
            case hf7_7 => kernel_rfl
            case hq7_7 => exact fun _ _ _ h => h
            case hy7_7 => (refine Or.inl ⟨rfl, ?_⟩; intro w hSw; (try dsimp only at hSw); go_simp; try with_reducible rfl)
            try simp only [Act.put, List.setIfInBounds_toArray, List.set_cons_zero, List.set_cons_succ]
            refine wpAnyH_take (i := 8) (oi := ?oi8_8) (v := ?v8_8) ?hi8_8 (by kernel_rfl) ?hf8_8 (by kernel_rfl) ?hq8_8 ?hy8_8 hHeld ?rest8_8
            case hi8_8 => (simp only [List.getElem?_toArray, List.getElem?_cons_succ, List.getElem?_cons_zero]; try exact rfl)
            case hf8_8 => kernel_rfl
            case hq8_8 => exact fun _ _ _ h => h
            case hy8_8 => (refine Or.inl ⟨rfl, ?_⟩; intro w hSw; (try dsimp only at hSw); go_simp; try with_reducible rfl)
            try simp only [Act.put, List.setIfInBounds_toArray, List.set_cons_zero, List.set_cons_succ]
            refine wpAnyH_take (i := 9) (oi := ?oi9_9) (v := ?v9_9) ?hi9_9 (by kernel_rfl) ?hf9_9 (by kernel_rfl) ?hq9_9 ?hy9_9 hHeld ?rest9_9
            case hi9_9 => (simp only [List.getElem?_toArray, List.getElem?_cons_succ, List.getElem?_cons_zero]; try exact rfl)
            case hf9_9 => kernel_rfl
            case hq9_9 => exact fun _ _ _ h => h
            case hy9_9 => (refine Or.inl ⟨rfl, ?_⟩; intro w hSw; (try dsimp only at hSw); go_simp; try with_reducible rfl)
            try simp only [Act.put, List.setIfInBounds_toArray, List.set_cons_zero, List.set_cons_succ]
            refine wpAnyH_take (i := 10) (oi := ?oi10_10) (v := ?v10_10) ?hi10_10 (by kernel_rfl) ?hf10_10 (by kernel_rfl) ?hq10_10 ?hy10_10 hHeld ?rest10_10
            case hi10_10 => (simp only [List.getElem?_toArray, List.getElem?_cons_succ, List.getElem?_cons_zero]; try exact rfl)
            case hf10_10 => kernel_rfl
            case hq10_10 => exact fun _ _ _ h => h
            case hy10_10 => (refine Or.inl ⟨rfl, ?_⟩; intro w hSw; (try dsimp only at hSw); go_simp; try with_reducible rfl)
            try simp only [Act.put, List.setIfInBounds_toArray, List.set_cons_zero, List.set_cons_succ]
            refine wpAnyH_ready (rs := [4]) (by kernel_rfl) (by simp) ?_
            refine AllReadyH.cons (by simp only [List.getElem?_toArray, List.getElem?_cons_succ, List.getElem?_cons_zero]; try exact rfl) (fun K hK => ?_) AllReadyH.nil
            go_simp
            refine (Itoa_any v _ (HG.out.below (HB1.out.drew)) hvb.1 hvb.2).mono ?_
            rintro e W2 ⟨rfl, hb2⟩
            have HB2 := Lib.hid (show Below W1.heap.size W1 W2 from (Below.refl _ _).drew.trans hb2)
            have hr2 := HR1.out.below HB2.out
            have HR2 := Lib.hid hr2
            have lt2 := (Array.getElem?_eq_some_iff.1 hr2).1
            clear c0 c1 hf hb2
            obtain ⟨c0, c1, hf⟩ := hr2.cells
            clear hr2
            refine hK.out _ _ c0 (fun hHeld => ?_)
            clear hK K
            try simp only [Act.put, List.setIfInBounds_toArray, List.set_cons_zero, List.set_cons_succ]
            refine wpAnyH_take (i := 11) (oi := ?oi11_11) (v := ?v11_11) ?hi11_11 (by kernel_rfl) ?hf11_11 (by kernel_rfl) ?hq11_11 ?hy11_11 hHeld ?rest11_11
            case hi11_11 => (simp only [List.getElem?_toArray, List.getElem?_cons_succ, List.getElem?_cons_zero]; try exact rfl)
            case hf11_11 => kernel_rfl
            case hq11_11 => exact fun _ _ _ h => h
            case hy11_11 => (refine Or.inl ⟨rfl, ?_⟩; intro w hSw; (try dsimp only at hSw); go_simp; try with_reducible rfl)
            try simp only [Act.put, List.setIfInBounds_toArray, List.set_cons_zero, List.set_cons_succ]
            refine wpAnyH_take (i := 12) (oi := ?oi12_12) (v := ?v12_12) ?hi12_12 (by kernel_rfl) ?hf12_12 (by kernel_rfl) ?hq12_12 ?hy12_12 hHeld ?rest12_12
            case hi12_12 => (simp only [List.getElem?_toArray, List.getElem?_cons_succ, List.getElem?_cons_zero]; try exact rfl)
            case hf12_12 => kernel_rfl
            case hq12_12 => exact fun _ _ _ h => h
            case hy12_12 => (refine Or.inl ⟨rfl, ?_⟩; intro w hSw; (try dsimp only at hSw); go_simp; try with_reducible rfl)
            try simp only [Act.put, List.setIfInBounds_toArray, List.set_cons_zero, List.set_cons_succ]
            refine wpAnyH_done (by kernel_rfl) ?_ _
            go_wp2_with fail
            go_ret
            rw [F.out]
            dsimp only
            rw [HNP.out, HREST.out]
            refine ⟨rfl, HR2.out.setS (s.drop k), KR.set ((KR.of_below HB1.out (Nat.le_of_lt hlt)).trans (KR.of_below HB2.out (Nat.le_of_lt lt1))) _ _⟩
          · have hbq : (Lib.itoa v == ((⟨s.toArray⟩ : ByteArray).extract 0 k).toList) = false := by rw [HCUT.out, show (⟨(numP s).toArray⟩ : ByteArray).toList = numP s by simp]; exact beq_eq_false_iff_ne.2 hvi
            have F := Lib.hid (numM_no (ok := ok) HV.out hvi)
            clear hvi
            go_wp2_with fail
            refine wp_region_held_drew (S := fun w' => w'.cell? ⟨rb, 0, none⟩ = some (.string ⟨s.toArray⟩)) (by kernel_rfl) ?_ (fun hHeld => ?_)
            · exact c0
            refine wpAnyH_take (i := 0) (oi := ?oi0_13) (v := ?v0_13) ?hi0_13 (by kernel_rfl) ?hf0_13 (by kernel_rfl) ?hq0_13 ?hy0_13 hHeld ?rest0_13
            case hi0_13 => (simp only [List.getElem?_toArray, List.getElem?_cons_zero]; try exact rfl)
            case hf0_13 => kernel_rfl
            case hq0_13 => exact fun _ _ _ h => h
            case hy0_13 => (refine Or.inl ⟨rfl, ?_⟩; intro w hSw; (try dsimp only at hSw); go_simp; try with_reducible rfl)
            try simp only [Act.put, List.setIfInBounds_toArray, List.set_cons_zero, List.set_cons_succ]
            refine wpAnyH_take (i := 1) (oi := ?oi1_14) (v := ?v1_14) ?hi1_14 (by kernel_rfl) ?hf1_14 (by kernel_rfl) ?hq1_14 ?hy1_14 hHeld ?rest1_14
            case hi1_14 => (simp only [List.getElem?_toArray, List.getElem?_cons_succ, List.getElem?_cons_zero]; try exact rfl)
            case hf1_14 => kernel_rfl
            case hq1_14 => exact fun _ _ _ h => h
            case hy1_14 => (refine Or.inl ⟨rfl, ?_⟩; intro w hSw; (try dsimp only at hSw); go_simp; try with_reducible rfl)
            try simp only [Act.put, List.setIfInBounds_toArray, List.set_cons_zero, List.set_cons_succ]
            refine wpAnyH_take (i := 2) (oi := ?oi2_15) (v := ?v2_15) ?hi2_15 (by kernel_rfl) ?hf2_15 (by kernel_rfl) ?hq2_15 ?hy2_15 hHeld ?rest2_15
            case hi2_15 => (simp only [List.getElem?_toArray, List.getElem?_cons_succ, List.getElem?_cons_zero]; try exact rfl)
            case hf2_15 => kernel_rfl
            case hq2_15 => exact fun _ _ _ h => h
            case hy2_15 => (refine Or.inl ⟨rfl, ?_⟩; intro w hSw; (try dsimp only at hSw); go_simp; try with_reducible rfl)
            try simp only [Act.put, List.setIfInBounds_toArray, List.set_cons_zero, List.set_cons_succ]
            refine wpAnyH_take (i := 3) (oi := ?oi3_16) (v := ?v3_16) ?hi3_16 (by kernel_rfl) ?hf3_16 (by kernel_rfl) ?hq3_16 ?hy3_16 hHeld ?rest3_16
            case hi3_16 => (simp only [List.getElem?_toArray, List.getElem?_cons_succ, List.getElem?_cons_zero]; try exact rfl)
            case hf3_16 => kernel_rfl
            case hq3_16 => exact fun _ _ _ h => h
            case hy3_16 => (refine Or.inl ⟨rfl, ?_⟩; intro w hSw; (try dsimp only at hSw); go_simp; try with_reducible rfl)
            try simp only [Act.put, List.setIfInBounds_toArray, List.set_cons_zero, List.set_cons_succ]
            refine wpAnyH_take (i := 5) (oi := ?oi5_17) (v := ?v5_17) ?hi5_17 (by kernel_rfl) ?hf5_17 (by kernel_rfl) ?hq5_17 ?hy5_17 hHeld ?rest5_17
            case hi5_17 => (simp only [List.getElem?_toArray, List.getElem?_cons_succ, List.getElem?_cons_zero]; try exact rfl)
            case hf5_17 => kernel_rfl
            case hq5_17 => exact fun _ _ _ h => h
            case hy5_17 => (refine Or.inl ⟨rfl, ?_⟩; intro w hSw; (try dsimp only at hSw); go_simp; try with_reducible rfl)
            try simp only [Act.put, List.setIfInBounds_toArray, List.set_cons_zero, List.set_cons_succ]
            refine wpAnyH_take (i := 6) (oi := ?oi6_18) (v := ?v6_18) ?hi6_18 (by kernel_rfl) ?hf6_18 (by kernel_rfl) ?hq6_18 ?hy6_18 hHeld ?rest6_18
            case hi6_18 => (simp only [List.getElem?_toArray, List.getElem?_cons_succ, List.getElem?_cons_zero]; try exact rfl)
            case hf6_18 => kernel_rfl
            case hq6_18 => exact fun _ _ _ h => h
            case hy6_18 => (refine Or.inl ⟨rfl, ?_⟩; intro w hSw; (try dsimp only at hSw); go_simp; try with_reducible rfl)
            try simp only [Act.put, List.setIfInBounds_toArray, List.set_cons_zero, List.set_cons_succ]
            refine wpAnyH_take (i := 7) (oi := ?oi7_19) (v := ?v7_19) ?hi7_19 (by kernel_rfl) ?hf7_19 (by kernel_rfl) ?hq7_19 ?hy7_19 hHeld ?rest7_19
            case hi7_19 => (simp only [List.getElem?_toArray, List.getElem?_cons_succ, List.getElem?_cons_zero]; try exact rfl)
            case hf7_19 => kernel_rfl
            case hq7_19 => exact fun _ _ _ h => h
            case hy7_19 => (refine Or.inl ⟨rfl, ?_⟩; intro w hSw; (try dsimp only at hSw); go_simp; try with_reducible rfl)
            try simp only [Act.put, List.setIfInBounds_toArray, List.set_cons_zero, List.set_cons_succ]
            refine wpAnyH_take (i := 8) (oi := ?oi8_20) (v := ?v8_20) ?hi8_20 (by kernel_rfl) ?hf8_20 (by kernel_rfl) ?hq8_20 ?hy8_20 hHeld ?rest8_20
            case hi8_20 => (simp only [List.getElem?_toArray, List.getElem?_cons_succ, List.getElem?_cons_zero]; try exact rfl)
            case hf8_20 => kernel_rfl
            case hq8_20 => exact fun _ _ _ h => h
            case hy8_20 => (refine Or.inl ⟨rfl, ?_⟩; intro w hSw; (try dsimp only at hSw); go_simp; try with_reducible rfl)
            try simp only [Act.put, List.setIfInBounds_toArray, List.set_cons_zero, List.set_cons_succ]
            refine wpAnyH_take (i := 9) (oi := ?oi9_21) (v := ?v9_21) ?hi9_21 (by kernel_rfl) ?hf9_21 (by kernel_rfl) ?hq9_21 ?hy9_21 hHeld ?rest9_21
            case hi9_21 => (simp only [List.getElem?_toArray, List.getElem?_cons_succ, List.getElem?_cons_zero]; try exact rfl)
            case hf9_21 => kernel_rfl
            case hq9_21 => exact fun _ _ _ h => h
            case hy9_21 => (refine Or.inl ⟨rfl, ?_⟩; intro w hSw; (try dsimp only at hSw); go_simp; try with_reducible rfl)
            try simp only [Act.put, List.setIfInBounds_toArray, List.set_cons_zero, List.set_cons_succ]
            refine wpAnyH_take (i := 10) (oi := ?oi10_22) (v := ?v10_22) ?hi10_22 (by kernel_rfl) ?hf10_22 (by kernel_rfl) ?hq10_22 ?hy10_22 hHeld ?rest10_22
            case hi10_22 => (simp only [List.getElem?_toArray, List.getElem?_cons_succ, List.getElem?_cons_zero]; try exact rfl)
            case hf10_22 => kernel_rfl
            case hq10_22 => exact fun _ _ _ h => h
            case hy10_22 => (refine Or.inl ⟨rfl, ?_⟩; intro w hSw; (try dsimp only at hSw); go_simp; try with_reducible rfl)
            try simp only [Act.put, List.setIfInBounds_toArray, List.set_cons_zero, List.set_cons_succ]
            refine wpAnyH_ready (rs := [4]) (by kernel_rfl) (by simp) ?_
            refine AllReadyH.cons (by simp only [List.getElem?_toArray, List.getElem?_cons_succ, List.getElem?_cons_zero]; try exact rfl) (fun K hK => ?_) AllReadyH.nil
            go_simp
            refine (Itoa_any v _ (HG.out.below (HB1.out.drew)) hvb.1 hvb.2).mono ?_
            rintro e W2 ⟨rfl, hb2⟩
            have HB2 := Lib.hid (show Below W1.heap.size W1 W2 from (Below.refl _ _).drew.trans hb2)
            have hr2 := HR1.out.below HB2.out
            have HR2 := Lib.hid hr2
            have lt2 := (Array.getElem?_eq_some_iff.1 hr2).1
            clear c0 c1 hf hb2
            obtain ⟨c0, c1, hf⟩ := hr2.cells
            clear hr2
            refine hK.out _ _ c0 (fun hHeld => ?_)
            clear hK K
            try simp only [Act.put, List.setIfInBounds_toArray, List.set_cons_zero, List.set_cons_succ]
            refine wpAnyH_take (i := 11) (oi := ?oi11_23) (v := ?v11_23) ?hi11_23 (by kernel_rfl) ?hf11_23 (by kernel_rfl) ?hq11_23 ?hy11_23 hHeld ?rest11_23
            case hi11_23 => (simp only [List.getElem?_toArray, List.getElem?_cons_succ, List.getElem?_cons_zero]; try exact rfl)
            case hf11_23 => kernel_rfl
            case hq11_23 => exact fun _ _ _ h => h
            case hy11_23 => (refine Or.inl ⟨rfl, ?_⟩; intro w hSw; (try dsimp only at hSw); go_simp; try with_reducible rfl)
            try simp only [Act.put, List.setIfInBounds_toArray, List.set_cons_zero, List.set_cons_succ]
            refine wpAnyH_take (i := 12) (oi := ?oi12_24) (v := ?v12_24) ?hi12_24 (by kernel_rfl) ?hf12_24 (by kernel_rfl) ?hq12_24 ?hy12_24 hHeld ?rest12_24
            case hi12_24 => (simp only [List.getElem?_toArray, List.getElem?_cons_succ, List.getElem?_cons_zero]; try exact rfl)
            case hf12_24 => kernel_rfl
            case hq12_24 => exact fun _ _ _ h => h
            case hy12_24 => (refine Or.inl ⟨rfl, ?_⟩; intro w hSw; (try dsimp only at hSw); go_simp; try with_reducible rfl)
            try simp only [Act.put, List.setIfInBounds_toArray, List.set_cons_zero, List.set_cons_succ]
            refine wpAnyH_done (by kernel_rfl) ?_ _
            go_wp2_with fail
            go_ret
            rw [F.out]
            exact ⟨rfl, HR2.out.setOk false, KR.set ((KR.of_below HB1.out (Nat.le_of_lt hlt)).trans (KR.of_below HB2.out (Nat.le_of_lt lt1))) _ _⟩
        · have hA : ∀ v, Lib.atoiAll (numP s) ≠ .ok v := fun v hv => hA ⟨v, hv⟩
          have F := Lib.hid (numM_err (ok := ok) hA)
          refine (Atoi_no _ _ HG.out (by rw [HCUT.out]; show (numP s).toArray.size ≤ _; rw [List.size_toArray, HNP.out]; omega) (by rw [HCUT.out]; exact hA)).mono ?_
          rintro e W1 ⟨⟨v, p, rfl⟩, hb1⟩
          have HB1 := Lib.hid hb1
          have hr1 := H.out.below hb1
          have HR1 := Lib.hid hr1
          clear c0 c1 hf hb1 hA
          obtain ⟨c0, c1, hf⟩ := hr1.cells
          have lt1 := (Array.getElem?_eq_some_iff.1 hr1).1
          clear hr1
          go_wp2_with fail
          go_quiet (fail)
          go_wp2_with fail
          go_ret
          rw [F.out]
          exact ⟨rfl, (show RAt (W1.drewN nq) rb s ok from HR1.out).setOk false, KR.set (KR.of_below (below_drewN HB1.out nq) (Nat.le_of_lt hlt)) _ _⟩
      · have hix := HIX.out k c hc
        have hkl : k < sl := by have := (List.getElem?_eq_some_iff.1 hc).1; rw [HSL.out] at this; exact this
        have hd2 : ¬ (48 ≤ c.toNat ∧ c.toNat ≤ 57) := fun h => by unfold isD at hd; rw [decide_eq_true h] at hd; cases hd
        by_cases h48 : 48 ≤ c.toNat
        · have hd3 : decide ((48 : Int) ≤ (c.toNat : Int)) = true := decide_eq_true (by omega)
          have hd4 : decide ((c.toNat : Int) ≤ (57 : Int)) = false := decide_eq_false (by omega)
          have hd5 : ((c.toNat : Int) == 45) = false := by rw [beq_eq_false_iff_ne]; omega
          clear hcc hc hd hd2
          by_cases hk0 : k = 0
          · have hk1 : ((k : Int) == 0) = true := by rw [beq_iff_eq]; omega
            clear hk0
            go_wp2_with fail
            by_cases hA : ∃ v, Lib.atoiAll (numP s) = .ok v
            · obtain ⟨v, hv⟩ := hA
              have hvb := Lib.atoiAll_bounds hv
              refine (Atoi_yes _ _ (by rw [HCUT.out]; show (numP s).toArray.size ≤ _; rw [List.size_toArray, HNP.out]; omega) v (by rw [HCUT.out]; exact hv)).mono ?_
              rintro e W1 ⟨rfl, hb1⟩
              have HB1 := Lib.hid hb1
              have HV := Lib.hid hv
              have hr1 := H.out.below hb1
              have HR1 := Lib.hid hr1
              have hz1 := hb1.size
              clear c0 c1 hf hb1 hv
              obtain ⟨c0, c1, hf⟩ := hr1.cells
              have lt1 := (Array.getElem?_eq_some_iff.1 hr1).1
              clear hr1
              by_cases hvi : Lib.itoa v = numP s
              · have hbq : (Lib.itoa v == ((⟨s.toArray⟩ : ByteArray).extract 0 k).toList) = true := by rw [HCUT.out, show (⟨(numP s).toArray⟩ : ByteArray).toList = numP s by simp]; exact beq_iff_eq.2 hvi
                have F := Lib.hid (numM_yes (ok := ok) HV.out hvi)
                clear hvi
                go_wp2_with fail
                refine wp_region_held_drew (S := fun w' => w'.cell? ⟨rb, 0, none⟩ = some (.string ⟨s.toArray⟩)) (by kernel_rfl) ?_ (fun hHeld => ?_)
                · exact c0
                refine wpAnyH_take (i := 0) (oi := ?oi0_25) (v := ?v0_25) ?hi0_25 (by kernel_rfl) ?hf0_25 (by kernel_rfl) ?hq0_25 ?hy0_25 hHeld ?rest0_25
                case hi0_25 => (simp only [List.getElem?_toArray, List.getElem?_cons_zero]; try exact rfl)
                case hf0_25 => kernel_rfl
                case hq0_25 => exact fun _ _ _ h => h
                case hy0_25 => (refine Or.inl ⟨rfl, ?_⟩; intro w hSw; (try dsimp only at hSw); go_simp; try with_reducible rfl)
                try simp only [Act.put, List.setIfInBounds_toArray, List.set_cons_zero, List.set_cons_succ]
                refine wpAnyH_take (i := 1) (oi := ?oi1_26) (v := ?v1_26) ?hi1_26 (by kernel_rfl) ?hf1_26 (by kernel_rfl) ?hq1_26 ?hy1_26 hHeld ?rest1_26
                case hi1_26 => (simp only [List.getElem?_toArray, List.getElem?_cons_succ, List.getElem?_cons_zero]; try exact rfl)
                case hf1_26 => kernel_rfl
                case hq1_26 => exact fun _ _ _ h => h
                case hy1_26 => (refine Or.inl ⟨rfl, ?_⟩; intro w hSw; (try dsimp only at hSw); go_simp; try with_reducible rfl)
                try simp only [Act.put, List.setIfInBounds_toArray, List.set_cons_zero, List.set_cons_succ]
                refine wpAnyH_take (i := 2) (oi := ?oi2_27) (v := ?v2_27) ?hi2_27 (by kernel_rfl) ?hf2_27 (by kernel_rfl) ?hq2_27 ?hy2_27 hHeld ?rest2_27
                case hi2_27 => (simp only [List.getElem?_toArray, List.getElem?_cons_succ, List.getElem?_cons_zero]; try exact rfl)
                case hf2_27 => kernel_rfl
                case hq2_27 => exact fun _ _ _ h => h
                case hy2_27 => (refine Or.inl ⟨rfl, ?_⟩; intro w hSw; (try dsimp only at hSw); go_simp; try with_reducible rfl)
                try simp only [Act.put, List.setIfInBounds_toArray, List.set_cons_zero, List.set_cons_succ]
                refine wpAnyH_take (i := 3) (oi := ?oi3_28) (v := ?v3_28) ?hi3_28 (by kernel_rfl) ?hf3_28 (by kernel_rfl) ?hq3_28 ?hy3_28 hHeld ?rest3_28
                case hi3_28 => (simp only [List.getElem?_toArray, List.getElem?_cons_succ, List.getElem?_cons_zero]; try exact rfl)
                case hf3_28 => kernel_rfl
                case hq3_28 => exact fun _ _ _ h => h
                case hy3_28 => (refine Or.inl ⟨rfl, ?_⟩; intro w hSw; (try dsimp only at hSw); go_simp; try with_reducible rfl)
                try simp only [Act.put, List.setIfInBounds_toArray, List.set_cons_zero, List.set_cons_succ]
                refine wpAnyH_take (i := 5) (oi := ?oi5_29) (v := ?v5_29) ?hi5_29 (by kernel_rfl) ?hf5_29 (by kernel_rfl) ?hq5_29 ?hy5_29 hHeld ?rest5_29
                case hi5_29 => (simp only [List.getElem?_toArray, List.getElem?_cons_succ, List.getElem?_cons_zero]; try exact rfl)
                case hf5_29 => kernel_rfl
                case hq5_29 => exact fun _ _ _ h => h
                case hy5_29 => (refine Or.inl ⟨rfl, ?_⟩; intro w hSw; (try dsimp only at hSw); go_simp; try with_reducible rfl)
                try simp only [Act.put, List.setIfInBounds_toArray, List.set_cons_zero, List.set_cons_succ]
                refine wpAnyH_take (i := 6) (oi := ?oi6_30) (v := ?v6_30) ?hi6_30 (by kernel_rfl) ?hf6_30 (by kernel_rfl) ?hq6_30 ?hy6_30 hHeld ?rest6_30
                case hi6_30 => (simp only [List.getElem?_toArray, List.getElem?_cons_succ, List.getElem?_cons_zero]; try exact rfl)
                case hf6_30 => kernel_rfl
                case hq6_30 => exact fun _ _ _ h => h
                case hy6_30 => (refine Or.inl ⟨rfl, ?_⟩; intro w hSw; (try dsimp only at hSw); go_simp; try with_reducible rfl)
                try simp only [Act.put, List.setIfInBounds_toArray, List.set_cons_zero, List.set_cons_succ]
                refine wpAnyH_take (i := 7) (oi := ?oi7_31) (v := ?v7_31) ?hi7_31 (by kernel_rfl) ?hf7_31 (by kernel_rfl) ?hq7_31 ?hy7_31 hHeld ?rest7_31
                case hi7_31 => (simp only [List.getElem?_toArray, List.getElem?_cons_succ, List.getElem?_cons_zero]; try exact rfl)
                case hf7_31 => kernel_rfl
                case hq7_31 => exact fun _ _ _ h => h
                case hy7_31 => (refine Or.inl ⟨rfl, ?_⟩; intro w hSw; (try dsimp only at hSw); go_simp; try with_reducible rfl)
                try simp only [Act.put, List.setIfInBounds_toArray, List.set_cons_zero, List.set_cons_succ]
                refine wpAnyH_take (i := 8) (oi := ?oi8_32) (v := ?v8_32) ?hi8_32 (by kernel_rfl) ?hf8_32 (by kernel_rfl) ?hq8_32 ?hy8_32 hHeld ?rest8_32
                case hi8_32 => (simp only [List.getElem?_toArray, List.getElem?_cons_succ, List.getElem?_cons_zero]; try exact rfl)
                case hf8_32 => kernel_rfl
                case hq8_32 => exact fun _ _ _ h => h
                case hy8_32 => (refine Or.inl ⟨rfl, ?_⟩; intro w hSw; (try dsimp only at hSw); go_simp; try with_reducible rfl)
                try simp only [Act.put, List.setIfInBounds_toArray, List.set_cons_zero, List.set_cons_succ]
                refine wpAnyH_take (i := 9) (oi := ?oi9_33) (v := ?v9_33) ?hi9_33 (by kernel_rfl) ?hf9_33 (by kernel_rfl) ?hq9_33 ?hy9_33 hHeld ?rest9_33
                case hi9_33 => (simp only [List.getElem?_toArray, List.getElem?_cons_succ, List.getElem?_cons_zero]; try exact rfl)
                case hf9_33 => kernel_rfl
                case hq9_33 => exact fun _ _ _ h => h
                case hy9_33 => (refine Or.inl ⟨rfl, ?_⟩; intro w hSw; (try dsimp only at hSw); go_simp; try with_reducible rfl)
                try simp only [Act.put, List.setIfInBounds_toArray, List.set_cons_zero, List.set_cons_succ]
                refine wpAnyH_take (i := 10) (oi := ?oi10_34) (v := ?v10_34) ?hi10_34 (by kernel_rfl) ?hf10_34 (by kernel_rfl) ?hq10_34 ?hy10_34 hHeld ?rest10_34
                case hi10_34 => (simp only [List.getElem?_toArray, List.getElem?_cons_succ, List.getElem?_cons_zero]; try exact rfl)
                case hf10_34 => kernel_rfl
                case hq10_34 => exact fun _ _ _ h => h
                case hy10_34 => (refine Or.inl ⟨rfl, ?_⟩; intro w hSw; (try dsimp only at hSw); go_simp; try with_reducible rfl)
                try simp only [Act.put, List.setIfInBounds_toArray, List.set_cons_zero, List.set_cons_succ]
                refine wpAnyH_ready (rs := [4]) (by kernel_rfl) (by simp) ?_
                refine AllReadyH.cons (by simp only [List.getElem?_toArray, List.getElem?_cons_succ, List.getElem?_cons_zero]; try exact rfl) (fun K hK => ?_) AllReadyH.nil
                go_simp
                refine (Itoa_any v _ (HG.out.below (HB1.out.drew)) hvb.1 hvb.2).mono ?_
                rintro e W2 ⟨rfl, hb2⟩
                have HB2 := Lib.hid (show Below W1.heap.size W1 W2 from (Below.refl _ _).drew.trans hb2)
                have hr2 := HR1.out.below HB2.out
                have HR2 := Lib.hid hr2
                have lt2 := (Array.getElem?_eq_some_iff.1 hr2).1
                clear c0 c1 hf hb2
                obtain ⟨c0, c1, hf⟩ := hr2.cells
                clear hr2
                refine hK.out _ _ c0 (fun hHeld => ?_)
                clear hK K
                try simp only [Act.put, List.setIfInBounds_toArray, List.set_cons_zero, List.set_cons_succ]
                refine wpAnyH_take (i := 11) (oi := ?oi11_35) (v := ?v11_35) ?hi11_35 (by kernel_rfl) ?hf11_35 (by kernel_rfl) ?hq11_35 ?hy11_35 hHeld ?rest11_35
                case hi11_35 => (simp only [List.getElem?_toArray, List.getElem?_cons_succ, List.getElem?_cons_zero]; try exact rfl)
                case hf11_35 => kernel_rfl
                case hq11_35 => exact fun _ _ _ h => h
                case hy11_35 => (refine Or.inl ⟨rfl, ?_⟩; intro w hSw; (try dsimp only at hSw); go_simp; try with_reducible rfl)
                try simp only [Act.put, List.setIfInBounds_toArray, List.set_cons_zero, List.set_cons_succ]
                refine wpAnyH_take (i := 12) (oi := ?oi12_36) (v := ?v12_36) ?hi12_36 (by kernel_rfl) ?hf12_36 (by kernel_rfl) ?hq12_36 ?hy12_36 hHeld ?rest12_36
                case hi12_36 => (simp only [List.getElem?_toArray, List.getElem?_cons_succ, List.getElem?_cons_zero]; try exact rfl)
                case hf12_36 => kernel_rfl
                case hq12_36 => exact fun _ _ _ h => h
                case hy12_36 => (refine Or.inl ⟨rfl, ?_⟩; intro w hSw; (try dsimp only at hSw); go_simp; try with_reducible rfl)
                try simp only [Act.put, List.setIfInBounds_toArray, List.set_cons_zero, List.set_cons_succ]
                refine wpAnyH_done (by kernel_rfl) ?_ _
                go_wp2_with fail
                go_ret
                rw [F.out]
                dsimp only
                rw [HNP.out, HREST.out]
                refine ⟨rfl, HR2.out.setS (s.drop k), KR.set ((KR.of_below HB1.out (Nat.le_of_lt hlt)).trans (KR.of_below HB2.out (Nat.le_of_lt lt1))) _ _⟩
              · have hbq : (Lib.itoa v == ((⟨s.toArray⟩ : ByteArray).extract 0 k).toList) = false := by rw [HCUT.out, show (⟨(numP s).toArray⟩ : ByteArray).toList = numP s by simp]; exact beq_eq_false_iff_ne.2 hvi
                have F := Lib.hid (numM_no (ok := ok) HV.out hvi)
                clear hvi
                go_wp2_with fail
                refine wp_region_held_drew (S := fun w' => w'.cell? ⟨rb, 0, none⟩ = some (.string ⟨s.toArray⟩)) (by kernel_rfl) ?_ (fun hHeld => ?_)
                · exact c0
                refine wpAnyH_take (i := 0) (oi := ?oi0_37) (v := ?v0_37) ?hi0_37 (by kernel_rfl) ?hf0_37 (by kernel_rfl) ?hq0_37 ?hy0_37 hHeld ?rest0_37
                case hi0_37 => (simp only [List.getElem?_toArray, List.getElem?_cons_zero]; try exact rfl)
                case hf0_37 => kernel_rfl
                case hq0_37 => exact fun _ _ _ h => h
                case hy0_37 => (refine Or.inl ⟨rfl, ?_⟩; intro w hSw; (try dsimp only at hSw); go_simp; try with_reducible rfl)
                try simp only [Act.put, List.setIfInBounds_toArray, List.set_cons_zero, List.set_cons_succ]
                refine wpAnyH_take (i := 1) (oi := ?oi1_38) (v := ?v1_38) ?hi1_38 (by kernel_rfl) ?hf1_38 (by kernel_rfl) ?hq1_38 ?hy1_38 hHeld ?rest1_38
                case hi1_38 => (simp only [List.getElem?_toArray, List.getElem?_cons_succ, List.getElem?_cons_zero]; try exact rfl)
                case hf1_38 => kernel_rfl
                case hq1_38 => exact fun _ _ _ h => h
                case hy1_38 => (refine Or.inl ⟨rfl, ?_⟩; intro w hSw; (try dsimp only at hSw); go_simp; try with_reducible rfl)
                try simp only [Act.put, List.setIfInBounds_toArray, List.set_cons_zero, List.set_cons_succ]
                refine wpAnyH_take (i := 2) (oi := ?oi2_39) (v := ?v2_39) ?hi2_39 (by kernel_rfl) ?hf2_39 (by kernel_rfl) ?hq2_39 ?hy2_39 hHeld ?rest2_39
                case hi2_39 => (simp only [List.getElem?_toArray, List.getElem?_cons_succ, List.getElem?_cons_zero]; try exact rfl)
                case hf2_39 => kernel_rfl
                case hq2_39 => exact fun _ _ _ h => h
                case hy2_39 => (refine Or.inl ⟨rfl, ?_⟩; intro w hSw; (try dsimp only at hSw); go_simp; try with_reducible rfl)
                try simp only [Act.put, List.setIfInBounds_toArray, List.set_cons_zero, List.set_cons_succ]
                refine wpAnyH_take (i := 3) (oi := ?oi3_40) (v := ?v3_40) ?hi3_40 (by kernel_rfl) ?hf3_40 (by kernel_rfl) ?hq3_40 ?hy3_40 hHeld ?rest3_40
                case hi3_40 => (simp only [List.getElem?_toArray, List.getElem?_cons_succ, List.getElem?_cons_zero]; try exact rfl)
                case hf3_40 => kernel_rfl
                case hq3_40 => exact fun _ _ _ h => h
                case hy3_40 => (refine Or.inl ⟨rfl, ?_⟩; intro w hSw; (try dsimp only at hSw); go_simp; try with_reducible rfl)
                try simp only [Act.put, List.setIfInBounds_toArray, List.set_cons_zero, List.set_cons_succ]
                refine wpAnyH_take (i := 5) (oi := ?oi5_41) (v := ?v5_41) ?hi5_41 (by kernel_rfl) ?hf5_41 (by kernel_rfl) ?hq5_41 ?hy5_41 hHeld ?rest5_41
                case hi5_41 => (simp only [List.getElem?_toArray, List.getElem?_cons_succ, List.getElem?_cons_zero]; try exact rfl)
                case hf5_41 => kernel_rfl
                case hq5_41 => exact fun _ _ _ h => h
                case hy5_41 => (refine Or.inl ⟨rfl, ?_⟩; intro w hSw; (try dsimp only at hSw); go_simp; try with_reducible rfl)
                try simp only [Act.put, List.setIfInBounds_toArray, List.set_cons_zero, List.set_cons_succ]
                refine wpAnyH_take (i := 6) (oi := ?oi6_42) (v := ?v6_42) ?hi6_42 (by kernel_rfl) ?hf6_42 (by kernel_rfl) ?hq6_42 ?hy6_42 hHeld ?rest6_42
                case hi6_42 => (simp only [List.getElem?_toArray, List.getElem?_cons_succ, List.getElem?_cons_zero]; try exact rfl)
                case hf6_42 => kernel_rfl
                case hq6_42 => exact fun _ _ _ h => h
                case hy6_42 => (refine Or.inl ⟨rfl, ?_⟩; intro w hSw; (try dsimp only at hSw); go_simp; try with_reducible rfl)
                try simp only [Act.put, List.setIfInBounds_toArray, List.set_cons_zero, List.set_cons_succ]
                refine wpAnyH_take (i := 7) (oi := ?oi7_43) (v := ?v7_43) ?hi7_43 (by kernel_rfl) ?hf7_43 (by kernel_rfl) ?hq7_43 ?hy7_43 hHeld ?rest7_43
                case hi7_43 => (simp only [List.getElem?_toArray, List.getElem?_cons_succ, List.getElem?_cons_zero]; try exact rfl)
                case hf7_43 => kernel_rfl
                case hq7_43 => exact fun _ _ _ h => h
                case hy7_43 => (refine Or.inl ⟨rfl, ?_⟩; intro w hSw; (try dsimp only at hSw); go_simp; try with_reducible rfl)
                try simp only [Act.put, List.setIfInBounds_toArray, List.set_cons_zero, List.set_cons_succ]
                refine wpAnyH_take (i := 8) (oi := ?oi8_44) (v := ?v8_44) ?hi8_44 (by kernel_rfl) ?hf8_44 (by kernel_rfl) ?hq8_44 ?hy8_44 hHeld ?rest8_44
                case hi8_44 => (simp only [List.getElem?_toArray, List.getElem?_cons_succ, List.getElem?_cons_zero]; try exact rfl)
                case hf8_44 => kernel_rfl
                case hq8_44 => exact fun _ _ _ h => h
                case hy8_44 => (refine Or.inl ⟨rfl, ?_⟩; intro w hSw; (try dsimp only at hSw); go_simp; try with_reducible rfl)
                try simp only [Act.put, List.setIfInBounds_toArray, List.set_cons_zero, List.set_cons_succ]
                refine wpAnyH_take (i := 9) (oi := ?oi9_45) (v := ?v9_45) ?hi9_45 (by kernel_rfl) ?hf9_45 (by kernel_rfl) ?hq9_45 ?hy9_45 hHeld ?rest9_45
                case hi9_45 => (simp only [List.getElem?_toArray, List.getElem?_cons_succ, List.getElem?_cons_zero]; try exact rfl)
                case hf9_45 => kernel_rfl
                case hq9_45 => exact fun _ _ _ h => h
                case hy9_45 => (refine Or.inl ⟨rfl, ?_⟩; intro w hSw; (try dsimp only at hSw); go_simp; try with_reducible rfl)
                try simp only [Act.put, List.setIfInBounds_toArray, List.set_cons_zero, List.set_cons_succ]
                refine wpAnyH_take (i := 10) (oi := ?oi10_46) (v := ?v10_46) ?hi10_46 (by kernel_rfl) ?hf10_46 (by kernel_rfl) ?hq10_46 ?hy10_46 hHeld ?rest10_46
                case hi10_46 => (simp only [List.getElem?_toArray, List.getElem?_cons_succ, List.getElem?_cons_zero]; try exact rfl)
                case hf10_46 => kernel_rfl
                case hq10_46 => exact fun _ _ _ h => h
                case hy10_46 => (refine Or.inl ⟨rfl, ?_⟩; intro w hSw; (try dsimp only at hSw); go_simp; try with_reducible rfl)
                try simp only [Act.put, List.setIfInBounds_toArray, List.set_cons_zero, List.set_cons_succ]
                refine wpAnyH_ready (rs := [4]) (by kernel_rfl) (by simp) ?_
                refine AllReadyH.cons (by simp only [List.getElem?_toArray, List.getElem?_cons_succ, List.getElem?_cons_zero]; try exact rfl) (fun K hK => ?_) AllReadyH.nil
                go_simp
                refine (Itoa_any v _ (HG.out.below (HB1.out.drew)) hvb.1 hvb.2).mono ?_
                rintro e W2 ⟨rfl, hb2⟩
                have HB2 := Lib.hid (show Below W1.heap.size W1 W2 from (Below.refl _ _).drew.trans hb2)
                have hr2 := HR1.out.below HB2.out
                have HR2 := Lib.hid hr2
                have lt2 := (Array.getElem?_eq_some_iff.1 hr2).1
                clear c0 c1 hf hb2
                obtain ⟨c0, c1, hf⟩ := hr2.cells
                clear hr2
                refine hK.out _ _ c0 (fun hHeld => ?_)
                clear hK K
                try simp only [Act.put, List.setIfInBounds_toArray, List.set_cons_zero, List.set_cons_succ]
                refine wpAnyH_take (i := 11) (oi := ?oi11_47) (v := ?v11_47) ?hi11_47 (by kernel_rfl) ?hf11_47 (by kernel_rfl) ?hq11_47 ?hy11_47 hHeld ?rest11_47
                case hi11_47 => (simp only [List.getElem?_toArray, List.getElem?_cons_succ, List.getElem?_cons_zero]; try exact rfl)
                case hf11_47 => kernel_rfl
                case hq11_47 => exact fun _ _ _ h => h
                case hy11_47 => (refine Or.inl ⟨rfl, ?_⟩; intro w hSw; (try dsimp only at hSw); go_simp; try with_reducible rfl)
                try simp only [Act.put, List.setIfInBounds_toArray, List.set_cons_zero, List.set_cons_succ]
                refine wpAnyH_take (i := 12) (oi := ?oi12_48) (v := ?v12_48) ?hi12_48 (by kernel_rfl) ?hf12_48 (by kernel_rfl) ?hq12_48 ?hy12_48 hHeld ?rest12_48
                case hi12_48 => (simp only [List.getElem?_toArray, List.getElem?_cons_succ, List.getElem?_cons_zero]; try exact rfl)
                case hf12_48 => kernel_rfl
                case hq12_48 => exact fun _ _ _ h => h
                case hy12_48 => (refine Or.inl ⟨rfl, ?_⟩; intro w hSw; (try dsimp only at hSw); go_simp; try with_reducible rfl)
                try simp only [Act.put, List.setIfInBounds_toArray, List.set_cons_zero, List.set_cons_succ]
                refine wpAnyH_done (by kernel_rfl) ?_ _
                go_wp2_with fail
                go_ret
                rw [F.out]
                exact ⟨rfl, HR2.out.setOk false, KR.set ((KR.of_below HB1.out (Nat.le_of_lt hlt)).trans (KR.of_below HB2.out (Nat.le_of_lt lt1))) _ _⟩
            · have hA : ∀ v, Lib.atoiAll (numP s) ≠ .ok v := fun v hv => hA ⟨v, hv⟩
              have F := Lib.hid (numM_err (ok := ok) hA)
              refine (Atoi_no _ _ HG.out (by rw [HCUT.out]; show (numP s).toArray.size ≤ _; rw [List.size_toArray, HNP.out]; omega) (by rw [HCUT.out]; exact hA)).mono ?_
              rintro e W1 ⟨⟨v, p, rfl⟩, hb1⟩
              have HB1 := Lib.hid hb1
              have hr1 := H.out.below hb1
              have HR1 := Lib.hid hr1
              clear c0 c1 hf hb1 hA
              obtain ⟨c0, c1, hf⟩ := hr1.cells
              have lt1 := (Array.getElem?_eq_some_iff.1 hr1).1
              clear hr1
              go_wp2_with fail
              go_quiet (fail)
              go_wp2_with fail
              go_ret
              rw [F.out]
              exact ⟨rfl, (show RAt (W1.drewN nq) rb s ok from HR1.out).setOk false, KR.set (KR.of_below (below_drewN HB1.out nq) (Nat.le_of_lt hlt)) _ _⟩
          · have hk1 : ((k : Int) == 0) = false := by rw [beq_eq_false_iff_ne]; omega
            clear hk0
            go_wp2_with fail
            by_cases hA : ∃ v, Lib.atoiAll (numP s) = .ok v
            · obtain ⟨v, hv⟩ := hA
              have hvb := Lib.atoiAll_bounds hv
              refine (Atoi_yes _ _ (by rw [HCUT.out]; show (numP s).toArray.size ≤ _; rw [List.size_toArray, HNP.out]; omega) v (by rw [HCUT.out]; exact hv)).mono ?_
              rintro e W1 ⟨rfl, hb1⟩
              have HB1 := Lib.hid hb1
              have HV := Lib.hid hv
              have hr1 := H.out.below hb1
              have HR1 := Lib.hid hr1
              have hz1 := hb1.size
              clear c0 c1 hf hb1 hv
              obtain ⟨c0, c1, hf⟩ := hr1.cells
              have lt1 := (Array.getElem?_eq_some_iff.1 hr1).1
              clear hr1
              by_cases hvi : Lib.itoa v = numP s
              · have hbq : (Lib.itoa v == ((⟨s.toArray⟩ : ByteArray).extract 0 k).toList) = true := by rw [HCUT.out, show (⟨(numP s).toArray⟩ : ByteArray).toList = numP s by simp]; exact beq_iff_eq.2 hvi
                have F := Lib.hid (numM_yes (ok := ok) HV.out hvi)
                clear hvi
                go_wp2_with fail
                refine wp_region_held_drew (S := fun w' => w'.cell? ⟨rb, 0, none⟩ = some (.string ⟨s.toArray⟩)) (by kernel_rfl) ?_ (fun hHeld => ?_)
                · exact c0
                refine wpAnyH_take (i := 0) (oi := ?oi0_49) (v := ?v0_49) ?hi0_49 (by kernel_rfl) ?hf0_49 (by kernel_rfl) ?hq0_49 ?hy0_49 hHeld ?rest0_49
                case hi0_49 => (simp only [List.getElem?_toArray, List.getElem?_cons_zero]; try exact rfl)
                case hf0_49 => kernel_rfl
                case hq0_49 => exact fun _ _ _ h => h
                case hy0_49 => (refine Or.inl ⟨rfl, ?_⟩; intro w hSw; (try dsimp only at hSw); go_simp; try with_reducible rfl)
                try simp only [Act.put, List.setIfInBounds_toArray, List.set_cons_zero, List.set_cons_succ]
                refine wpAnyH_take (i := 1) (oi := ?oi1_50) (v := ?v1_50) ?hi1_50 (by kernel_rfl) ?hf1_50 (by kernel_rfl) ?hq1_50 ?hy1_50 hHeld ?rest1_50
                case hi1_50 => (simp only [List.getElem?_toArray, List.getElem?_cons_succ, List.getElem?_cons_zero]; try exact rfl)
                case hf1_50 => kernel_rfl
                case hq1_50 => exact fun _ _ _ h => h
                case hy1_50 => (refine Or.inl ⟨rfl, ?_⟩; intro w hSw; (try dsimp only at hSw); go_simp; try with_reducible rfl)
                try simp only [Act.put, List.setIfInBounds_toArray, List.set_cons_zero, List.set_cons_succ]
                refine wpAnyH_take (i := 2) (oi := ?oi2_51) (v := ?v2_51) ?hi2_51 (by kernel_rfl) ?hf2_51 (by kernel_rfl) ?hq2_51 ?hy2_51 hHeld ?rest2_51
                case hi2_51 => (simp only [List.getElem?_toArray, List.getElem?_cons_succ, List.getElem?_cons_zero]; try exact rfl)
                case hf2_51 => kernel_rfl
                case hq2_51 => exact fun _ _ _ h => h
                case hy2_51 => (refine Or.inl ⟨rfl, ?_⟩; intro w hSw; (try dsimp only at hSw); go_simp; try with_reducible rfl)
                try simp only [Act.put, List.setIfInBounds_toArray, List.set_cons_zero, List.set_cons_succ]
                refine wpAnyH_take (i := 3) (oi := ?oi3_52) (v := ?v3_52) ?hi3_52 (by kernel_rfl) ?hf3_52 (by kernel_rfl) ?hq3_52 ?hy3_52 hHeld ?rest3_52
                case hi3_52 => (simp only [List.getElem?_toArray, List.getElem?_cons_succ, List.getElem?_cons_zero]; try exact rfl)
                case hf3_52 => kernel_rfl
                case hq3_52 => exact fun _ _ _ h => h
                case hy3_52 => (refine Or.inl ⟨rfl, ?_⟩; intro w hSw; (try dsimp only at hSw); go_simp; try with_reducible rfl)
                try simp only [Act.put, List.setIfInBounds_toArray, List.set_cons_zero, List.set_cons_succ]
                refine wpAnyH_take (i := 5) (oi := ?oi5_53) (v := ?v5_53) ?hi5_53 (by kernel_rfl) ?hf5_53 (by kernel_rfl) ?hq5_53 ?hy5_53 hHeld ?rest5_53
                case hi5_53 => (simp only [List.getElem?_toArray, List.getElem?_cons_succ, List.getElem?_cons_zero]; try exact rfl)
                case hf5_53 => kernel_rfl
                case hq5_53 => exact fun _ _ _ h => h
                case hy5_53 => (refine Or.inl ⟨rfl, ?_⟩; intro w hSw; (try dsimp only at hSw); go_simp; try with_reducible rfl)
                try simp only [Act.put, List.setIfInBounds_toArray, List.set_cons_zero, List.set_cons_succ]
                refine wpAnyH_take (i := 6) (oi := ?oi6_54) (v := ?v6_54) ?hi6_54 (by kernel_rfl) ?hf6_54 (by kernel_rfl) ?hq6_54 ?hy6_54 hHeld ?rest6_54
                case hi6_54 => (simp only [List.getElem?_toArray, List.getElem?_cons_succ, List.getElem?_cons_zero]; try exact rfl)
                case hf6_54 => kernel_rfl
                case hq6_54 => exact fun _ _ _ h => h
                case hy6_54 => (refine Or.inl ⟨rfl, ?_⟩; intro w hSw; (try dsimp only at hSw); go_simp; try with_reducible rfl)
                try simp only [Act.put, List.setIfInBounds_toArray, List.set_cons_zero, List.set_cons_succ]
                refine wpAnyH_take (i := 7) (oi := ?oi7_55) (v := ?v7_55) ?hi7_55 (by kernel_rfl) ?hf7_55 (by kernel_rfl) ?hq7_55 ?hy7_55 hHeld ?rest7_55
                case hi7_55 => (simp only [List.getElem?_toArray, List.getElem?_cons_succ, List.getElem?_cons_zero]; try exact rfl)
                case hf7_55 => kernel_rfl
                case hq7_55 => exact fun _ _ _ h => h
                case hy7_55 => (refine Or.inl ⟨rfl, ?_⟩; intro w hSw; (try dsimp only at hSw); go_simp; try with_reducible rfl)
                try simp only [Act.put, List.setIfInBounds_toArray, List.set_cons_zero, List.set_cons_succ]
                refine wpAnyH_take (i := 8) (oi := ?oi8_56) (v := ?v8_56) ?hi8_56 (by kernel_rfl) ?hf8_56 (by kernel_rfl) ?hq8_56 ?hy8_56 hHeld ?rest8_56
                case hi8_56 => (simp only [List.getElem?_toArray, List.getElem?_cons_succ, List.getElem?_cons_zero]; try exact rfl)
                case hf8_56 => kernel_rfl
                case hq8_56 => exact fun _ _ _ h => h
                case hy8_56 => (refine Or.inl ⟨rfl, ?_⟩; intro w hSw; (try dsimp only at hSw); go_simp; try with_reducible rfl)
                try simp only [Act.put, List.setIfInBounds_toArray, List.set_cons_zero, List.set_cons_succ]
                refine wpAnyH_take (i := 9) (oi := ?oi9_57) (v := ?v9_57) ?hi9_57 (by kernel_rfl) ?hf9_57 (by kernel_rfl) ?hq9_57 ?hy9_57 hHeld ?rest9_57
                case hi9_57 => (simp only [List.getElem?_toArray, List.getElem?_cons_succ, List.getElem?_cons_zero]; try exact rfl)
                case hf9_57 => kernel_rfl
                case hq9_57 => exact fun _ _ _ h => h
                case hy9_57 => (refine Or.inl ⟨rfl, ?_⟩; intro w hSw; (try dsimp only at hSw); go_simp; try with_reducible rfl)
                try simp only [Act.put, List.setIfInBounds_toArray, List.set_cons_zero, List.set_cons_succ]
                refine wpAnyH_take (i := 10) (oi := ?oi10_58) (v := ?v10_58) ?hi10_58 (by kernel_rfl) ?hf10_58 (by kernel_rfl) ?hq10_58 ?hy10_58 hHeld ?rest10_58
                case hi10_58 => (simp only [List.getElem?_toArray, List.getElem?_cons_succ, List.getElem?_cons_zero]; try exact rfl)
                case hf10_58 => kernel_rfl
                case hq10_58 => exact fun _ _ _ h => h
                case hy10_58 => (refine Or.inl ⟨rfl, ?_⟩; intro w hSw; (try dsimp only at hSw); go_simp; try with_reducible rfl)
                try simp only [Act.put, List.setIfInBounds_toArray, List.set_cons_zero, List.set_cons_succ]
                refine wpAnyH_ready (rs := [4]) (by kernel_rfl) (by simp) ?_
                refine AllReadyH.cons (by simp only [List.getElem?_toArray, List.getElem?_cons_succ, List.getElem?_cons_zero]; try exact rfl) (fun K hK => ?_) AllReadyH.nil
                go_simp
                refine (Itoa_any v _ (HG.out.below (HB1.out.drew)) hvb.1 hvb.2).mono ?_
                rintro e W2 ⟨rfl, hb2⟩
                have HB2 := Lib.hid (show Below W1.heap.size W1 W2 from (Below.refl _ _).drew.trans hb2)
                have hr2 := HR1.out.below HB2.out
                have HR2 := Lib.hid hr2
                have lt2 := (Array.getElem?_eq_some_iff.1 hr2).1
                clear c0 c1 hf hb2
                obtain ⟨c0, c1, hf⟩ := hr2.cells
                clear hr2
                refine hK.out _ _ c0 (fun hHeld => ?_)
                clear hK K
                try simp only [Act.put, List.setIfInBounds_toArray, List.set_cons_zero, List.set_cons_succ]
                refine wpAnyH_take (i := 11) (oi := ?oi11_59) (v := ?v11_59) ?hi11_59 (by kernel_rfl) ?hf11_59 (by kernel_rfl) ?hq11_59 ?hy11_59 hHeld ?rest11_59
                case hi11_59 => (simp only [List.getElem?_toArray, List.getElem?_cons_succ, List.getElem?_cons_zero]; try exact rfl)
                case hf11_59 => kernel_rfl
                case hq11_59 => exact fun _ _ _ h => h
                case hy11_59 => (refine Or.inl ⟨rfl, ?_⟩; intro w hSw; (try dsimp only at hSw); go_simp; try with_reducible rfl)
                try simp only [Act.put, List.setIfInBounds_toArray, List.set_cons_zero, List.set_cons_succ]
                refine wpAnyH_take (i := 12) (oi := ?oi12_60) (v := ?v12_60) ?hi12_60 (by kernel_rfl) ?hf12_60 (by kernel_rfl) ?hq12_60 ?hy12_60 hHeld ?rest12_60
                case hi12_60 => (simp only [List.getElem?_toArray, List.getElem?_cons_succ, List.getElem?_cons_zero]; try exact rfl)
                case hf12_60 => kernel_rfl
                case hq12_60 => exact fun _ _ _ h => h
                case hy12_60 => (refine Or.inl ⟨rfl, ?_⟩; intro w hSw; (try dsimp only at hSw); go_simp; try with_reducible rfl)
                try simp only [Act.put, List.setIfInBounds_toArray, List.set_cons_zero, List.set_cons_succ]
                refine wpAnyH_done (by kernel_rfl) ?_ _
                go_wp2_with fail
                go_ret
                rw [F.out]
                dsimp only
                rw [HNP.out, HREST.out]
                refine ⟨rfl, HR2.out.setS (s.drop k), KR.set ((KR.of_below HB1.out (Nat.le_of_lt hlt)).trans (KR.of_below HB2.out (Nat.le_of_lt lt1))) _ _⟩
              · have hbq : (Lib.itoa v == ((⟨s.toArray⟩ : ByteArray).extract 0 k).toList) = false := by rw [HCUT.out, show (⟨(numP s).toArray⟩ : ByteArray).toList = numP s by simp]; exact beq_eq_false_iff_ne.2 hvi
                have F := Lib.hid (numM_no (ok := ok) HV.out hvi)
                clear hvi
                go_wp2_with fail
                refine wp_region_held_drew (S := fun w' => w'.cell? ⟨rb, 0, none⟩ = some (.string ⟨s.toArray⟩)) (by kernel_rfl) ?_ (fun hHeld => ?_)
                · exact c0
                refine wpAnyH_take (i := 0) (oi := ?oi0_61) (v := ?v0_61) ?hi0_61 (by kernel_rfl) ?hf0_61 (by kernel_rfl) ?hq0_61 ?hy0_61 hHeld ?rest0_61
                case hi0_61 => (simp only [List.getElem?_toArray, List.getElem?_cons_zero]; try exact rfl)
                case hf0_61 => kernel_rfl
                case hq0_61 => exact fun _ _ _ h => h
                case hy0_61 => (refine Or.inl ⟨rfl, ?_⟩; intro w hSw; (try dsimp only at hSw); go_simp; try with_reducible rfl)
                try simp only [Act.put, List.setIfInBounds_toArray, List.set_cons_zero, List.set_cons_succ]
                refine wpAnyH_take (i := 1) (oi := ?oi1_62) (v := ?v1_62) ?hi1_62 (by kernel_rfl) ?hf1_62 (by kernel_rfl) ?hq1_62 ?hy1_62 hHeld ?rest1_62
                case hi1_62 => (simp only [List.getElem?_toArray, List.getElem?_cons_succ, List.getElem?_cons_zero]; try exact rfl)
                case hf1_62 => kernel_rfl
                case hq1_62 => exact fun _ _ _ h => h
                case hy1_62 => (refine Or.inl ⟨rfl, ?_⟩; intro w hSw; (try dsimp only at hSw); go_simp; try with_reducible rfl)
                try simp only [Act.put, List.setIfInBounds_toArray, List.set_cons_zero, List.set_cons_succ]
                refine wpAnyH_take (i := 2) (oi := ?oi2_63) (v := ?v2_63) ?hi2_63 (by kernel_rfl) ?hf2_63 (by kernel_rfl) ?hq2_63 ?hy2_63 hHeld ?rest2_63
                case hi2_63 => (simp only [List.getElem?_toArray, List.getElem?_cons_succ, List.getElem?_cons_zero]; try exact rfl)
                case hf2_63 => kernel_rfl
                case hq2_63 => exact fun _ _ _ h => h
                case hy2_63 => (refine Or.inl ⟨rfl, ?_⟩; intro w hSw; (try dsimp only at hSw); go_simp; try with_reducible rfl)
                try simp only [Act.put, List.setIfInBounds_toArray, List.set_cons_zero, List.set_cons_succ]
                refine wpAnyH_take (i := 3) (oi := ?oi3_64) (v := ?v3_64) ?hi3_64 (by kernel_rfl) ?hf3_64 (by kernel_rfl) ?hq3_64 ?hy3_64 hHeld ?rest3_64
                case hi3_64 => (simp only [List.getElem?_toArray, List.getElem?_cons_succ, List.getElem?_cons_zero]; try exact rfl)
                case hf3_64 => kernel_rfl
                case hq3_64 => exact fun _ _ _ h => h
                case hy3_64 => (refine Or.inl ⟨rfl, ?_⟩; intro w hSw; (try dsimp only at hSw); go_simp; try with_reducible rfl)
                try simp only [Act.put, List.setIfInBounds_toArray, List.set_cons_zero, List.set_cons_succ]
                refine wpAnyH_take (i := 5) (oi := ?oi5_65) (v := ?v5_65) ?hi5_65 (by kernel_rfl) ?hf5_65 (by kernel_rfl) ?hq5_65 ?hy5_65 hHeld ?rest5_65
                case hi5_65 => (simp only [List.getElem?_toArray, List.getElem?_cons_succ, List.getElem?_cons_zero]; try exact rfl)
                case hf5_65 => kernel_rfl
                case hq5_65 => exact fun _ _ _ h => h
                case hy5_65 => (refine Or.inl ⟨rfl, ?_⟩; intro w hSw; (try dsimp only at hSw); go_simp; try with_reducible rfl)
                try simp only [Act.put, List.setIfInBounds_toArray, List.set_cons_zero, List.set_cons_succ]
                refine wpAnyH_take (i := 6) (oi := ?oi6_66) (v := ?v6_66) ?hi6_66 (by kernel_rfl) ?hf6_66 (by kernel_rfl) ?hq6_66 ?hy6_66 hHeld ?rest6_66
                case hi6_66 => (simp only [List.getElem?_toArray, List.getElem?_cons_succ, List.getElem?_cons_zero]; try exact rfl)
                case hf6_66 => kernel_rfl
                case hq6_66 => exact fun _ _ _ h => h
                case hy6_66 => (refine Or.inl ⟨rfl, ?_⟩; intro w hSw; (try dsimp only at hSw); go_simp; try with_reducible rfl)
                try simp only [Act.put, List.setIfInBounds_toArray, List.set_cons_zero, List.set_cons_succ]
                refine wpAnyH_take (i := 7) (oi := ?oi7_67) (v := ?v7_67) ?hi7_67 (by kernel_rfl) ?hf7_67 (by kernel_rfl) ?hq7_67 ?hy7_67 hHeld ?rest7_67
                case hi7_67 => (simp only [List.getElem?_toArray, List.getElem?_cons_succ, List.getElem?_cons_zero]; try exact rfl)
                case hf7_67 => kernel_rfl
                case hq7_67 => exact fun _ _ _ h => h
                case hy7_67 => (refine Or.inl ⟨rfl, ?_⟩; intro w hSw; (try dsimp only at hSw); go_simp; try with_reducible rfl)
                try simp only [Act.put, List.setIfInBounds_toArray, List.set_cons_zero, List.set_cons_succ]
                refine wpAnyH_take (i := 8) (oi := ?oi8_68) (v := ?v8_68) ?hi8_68 (by kernel_rfl) ?hf8_68 (by kernel_rfl) ?hq8_68 ?hy8_68 hHeld ?rest8_68
                case hi8_68 => (simp only [List.getElem?_toArray, List.getElem?_cons_succ, List.getElem?_cons_zero]; try exact rfl)
                case hf8_68 => kernel_rfl
                case hq8_68 => exact fun _ _ _ h => h
                case hy8_68 => (refine Or.inl ⟨rfl, ?_⟩; intro w hSw; (try dsimp only at hSw); go_simp; try with_reducible rfl)
                try simp only [Act.put, List.setIfInBounds_toArray, List.set_cons_zero, List.set_cons_succ]
                refine wpAnyH_take (i := 9) (oi := ?oi9_69) (v := ?v9_69) ?hi9_69 (by kernel_rfl) ?hf9_69 (by kernel_rfl) ?hq9_69 ?hy9_69 hHeld ?rest9_69
                case hi9_69 => (simp only [List.getElem?_toArray, List.getElem?_cons_succ, List.getElem?_cons_zero]; try exact rfl)
                case hf9_69 => kernel_rfl
                case hq9_69 => exact fun _ _ _ h => h
                case hy9_69 => (refine Or.inl ⟨rfl, ?_⟩; intro w hSw; (try dsimp only at hSw); go_simp; try with_reducible rfl)
                try simp only [Act.put, List.setIfInBounds_toArray, List.set_cons_zero, List.set_cons_succ]
                refine wpAnyH_take (i := 10) (oi := ?oi10_70) (v := ?v10_70) ?hi10_70 (by kernel_rfl) ?hf10_70 (by kernel_rfl) ?hq10_70 ?hy10_70 hHeld ?rest10_70
                case hi10_70 => (simp only [List.getElem?_toArray, List.getElem?_cons_succ, List.getElem?_cons_zero]; try exact rfl)
                case hf10_70 => kernel_rfl
                case hq10_70 => exact fun _ _ _ h => h
                case hy10_70 => (refine Or.inl ⟨rfl, ?_⟩; intro w hSw; (try dsimp only at hSw); go_simp; try with_reducible rfl)
                try simp only [Act.put, List.setIfInBounds_toArray, List.set_cons_zero, List.set_cons_succ]
                refine wpAnyH_ready (rs := [4]) (by kernel_rfl) (by simp) ?_
                refine AllReadyH.cons (by simp only [List.getElem?_toArray, List.getElem?_cons_succ, List.getElem?_cons_zero]; try exact rfl) (fun K hK => ?_) AllReadyH.nil
                go_simp
                refine (Itoa_any v _ (HG.out.below (HB1.out.drew)) hvb.1 hvb.2).mono ?_
                rintro e W2 ⟨rfl, hb2⟩
                have HB2 := Lib.hid (show Below W1.heap.size W1 W2 from (Below.refl _ _).drew.trans hb2)
                have hr2 := HR1.out.below HB2.out
                have HR2 := Lib.hid hr2
                have lt2 := (Array.getElem?_eq_some_iff.1 hr2).1
                clear c0 c1 hf hb2
                obtain ⟨c0, c1, hf⟩ := hr2.cells
                clear hr2
                refine hK.out _ _ c0 (fun hHeld => ?_)
                clear hK K
                try simp only [Act.put, List.setIfInBounds_toArray, List.set_cons_zero, List.set_cons_succ]
                refine wpAnyH_take (i := 11) (oi := ?oi11_71) (v := ?v11_71) ?hi11_71 (by kernel_rfl) ?hf11_71 (by kernel_rfl) ?hq11_71 ?hy11_71 hHeld ?rest11_71
                case hi11_71 => (simp only [List.getElem?_toArray, List.getElem?_cons_succ, List.getElem?_cons_zero]; try exact rfl)
                case hf11_71 => kernel_rfl
                case hq11_71 => exact fun _ _ _ h => h
                case hy11_71 => (refine Or.inl ⟨rfl, ?_⟩; intro w hSw; (try dsimp only at hSw); go_simp; try with_reducible rfl)
                try simp only [Act.put, List.setIfInBounds_toArray, List.set_cons_zero, List.set_cons_succ]
                refine wpAnyH_take (i := 12) (oi := ?oi12_72) (v := ?v12_72) ?hi12_72 (by kernel_rfl) ?hf12_72 (by kernel_rfl) ?hq12_72 ?hy12_72 hHeld ?rest12_72
                case hi12_72 => (simp only [List.getElem?_toArray, List.getElem?_cons_succ, List.getElem?_cons_zero]; try exact rfl)
                case hf12_72 => kernel_rfl
                case hq12_72 => exact fun _ _ _ h => h
                case hy12_72 => (refine Or.inl ⟨rfl, ?_⟩; intro w hSw; (try dsimp only at hSw); go_simp; try with_reducible rfl)
                try simp only [Act.put, List.setIfInBounds_toArray, List.set_cons_zero, List.set_cons_succ]
                refine wpAnyH_done (by kernel_rfl) ?_ _
                go_wp2_with fail
                go_ret
                rw [F.out]
                exact ⟨rfl, HR2.out.setOk false, KR.set ((KR.of_below HB1.out (Nat.le_of_lt hlt)).trans (KR.of_below HB2.out (Nat.le_of_lt lt1))) _ _⟩
            · have hA : ∀ v, Lib.atoiAll (numP s) ≠ .ok v := fun v hv => hA ⟨v, hv⟩
              have F := Lib.hid (numM_err (ok := ok) hA)
              refine (Atoi_no _ _ HG.out (by rw [HCUT.out]; show (numP s).toArray.size ≤ _; rw [List.size_toArray, HNP.out]; omega) (by rw [HCUT.out]; exact hA)).mono ?_
              rintro e W1 ⟨⟨v, p, rfl⟩, hb1⟩
              have HB1 := Lib.hid hb1
              have hr1 := H.out.below hb1
              have HR1 := Lib.hid hr1
              clear c0 c1 hf hb1 hA
              obtain ⟨c0, c1, hf⟩ := hr1.cells
              have lt1 := (Array.getElem?_eq_some_iff.1 hr1).1
              clear hr1
              go_wp2_with fail
              go_quiet (fail)
              go_wp2_with fail
              go_ret
              rw [F.out]
              exact ⟨rfl, (show RAt (W1.drewN nq) rb s ok from HR1.out).setOk false, KR.set (KR.of_below (below_drewN HB1.out nq) (Nat.le_of_lt hlt)) _ _⟩
        · have hd3 : decide ((48 : Int) ≤ (c.toNat : Int)) = false := decide_eq_false (by omega)
          by_cases hk0 : k = 0
          · have hk1 : ((k : Int) == 0) = true := by rw [beq_iff_eq]; omega
            have hd5 : ((c.toNat : Int) == 45) = false := by
              rw [beq_eq_false_iff_ne]
              intro e
              exact hcc ⟨hk0, UInt8.toNat_inj.1 (by show c.toNat = 45; omega)⟩
            clear hcc hc hd hd2 hk0
            go_wp2_with fail
            by_cases hA : ∃ v, Lib.atoiAll (numP s) = .ok v
            · obtain ⟨v, hv⟩ := hA
              have hvb := Lib.atoiAll_bounds hv
              refine (Atoi_yes _ _ (by rw [HCUT.out]; show (numP s).toArray.size ≤ _; rw [List.size_toArray, HNP.out]; omega) v (by rw [HCUT.out]; exact hv)).mono ?_
              rintro e W1 ⟨rfl, hb1⟩
              have HB1 := Lib.hid hb1
              have HV := Lib.hid hv
              have hr1 := H.out.below hb1
              have HR1 := Lib.hid hr1
              have hz1 := hb1.size
              clear c0 c1 hf hb1 hv
              obtain ⟨c0, c1, hf⟩ := hr1.cells
              have lt1 := (Array.getElem?_eq_some_iff.1 hr1).1
              clear hr1
              by_cases hvi : Lib.itoa v = numP s
              · have hbq : (Lib.itoa v == ((⟨s.toArray⟩ : ByteArray).extract 0 k).toList) = true := by rw [HCUT.out, show (⟨(numP s).toArray⟩ : ByteArray).toList = numP s by simp]; exact beq_iff_eq.2 hvi
                have F := Lib.hid (numM_yes (ok := ok) HV.out hvi)
                clear hvi
                go_wp2_with fail
                refine wp_region_held_drew (S := fun w' => w'.cell? ⟨rb, 0, none⟩ = some (.string ⟨s.toArray⟩)) (by kernel_rfl) ?_ (fun hHeld => ?_)
                · exact c0
                refine wpAnyH_take (i := 0) (oi := ?oi0_73) (v := ?v0_73) ?hi0_73 (by kernel_rfl) ?hf0_73 (by kernel_rfl) ?hq0_73 ?hy0_73 hHeld ?rest0_73
                case hi0_73 => (simp only [List.getElem?_toArray, List.getElem?_cons_zero]; try exact rfl)
                case hf0_73 => kernel_rfl
                case hq0_73 => exact fun _ _ _ h => h
                case hy0_73 => (refine Or.inl ⟨rfl, ?_⟩; intro w hSw; (try dsimp only at hSw); go_simp; try with_reducible rfl)
                try simp only [Act.put, List.setIfInBounds_toArray, List.set_cons_zero, List.set_cons_succ]
                refine wpAnyH_take (i := 1) (oi := ?oi1_74) (v := ?v1_74) ?hi1_74 (by kernel_rfl) ?hf1_74 (by kernel_rfl) ?hq1_74 ?hy1_74 hHeld ?rest1_74
                case hi1_74 => (simp only [List.getElem?_toArray, List.getElem?_cons_succ, List.getElem?_cons_zero]; try exact rfl)
                case hf1_74 => kernel_rfl
                case hq1_74 => exact fun _ _ _ h => h
                case hy1_74 => (refine Or.inl ⟨rfl, ?_⟩; intro w hSw; (try dsimp only at hSw); go_simp; try with_reducible rfl)
                try simp only [Act.put, List.setIfInBounds_toArray, List.set_cons_zero, List.set_cons_succ]
                refine wpAnyH_take (i := 2) (oi := ?oi2_75) (v := ?v2_75) ?hi2_75 (by kernel_rfl) ?hf2_75 (by kernel_rfl) ?hq2_75 ?hy2_75 hHeld ?rest2_75
                case hi2_75 => (simp only [List.getElem?_toArray, List.getElem?_cons_succ, List.getElem?_cons_zero]; try exact rfl)
                case hf2_75 => kernel_rfl
                case hq2_75 => exact fun _ _ _ h => h
                case hy2_75 => (refine Or.inl ⟨rfl, ?_⟩; intro w hSw; (try dsimp only at hSw); go_simp; try with_reducible rfl)
                try simp only [Act.put, List.setIfInBounds_toArray, List.set_cons_zero, List.set_cons_succ]
                refine wpAnyH_take (i := 3) (oi := ?oi3_76) (v := ?v3_76) ?hi3_76 (by kernel_rfl) ?hf3_76 (by kernel_rfl) ?hq3_76 ?hy3_76 hHeld ?rest3_76
                case hi3_76 => (simp only [List.getElem?_toArray, List.getElem?_cons_succ, List.getElem?_cons_zero]; try exact rfl)
                case hf3_76 => kernel_rfl
                case hq3_76 => exact fun _ _ _ h => h
                case hy3_76 => (refine Or.inl ⟨rfl, ?_⟩; intro w hSw; (try dsimp only at hSw); go_simp; try with_reducible rfl)
                try simp only [Act.put, List.setIfInBounds_toArray, List.set_cons_zero, List.set_cons_succ]
                refine wpAnyH_take (i := 5) (oi := ?oi5_77) (v := ?v5_77) ?hi5_77 (by kernel_rfl) ?hf5_77 (by kernel_rfl) ?hq5_77 ?hy5_77 hHeld ?rest5_77
                case hi5_77 => (simp only [List.getElem?_toArray, List.getElem?_cons_succ, List.getElem?_cons_zero]; try exact rfl)
                case hf5_77 => kernel_rfl
                case hq5_77 => exact fun _ _ _ h => h
                case hy5_77 => (refine Or.inl ⟨rfl, ?_⟩; intro w hSw; (try dsimp only at hSw); go_simp; try with_reducible rfl)
                try simp only [Act.put, List.setIfInBounds_toArray, List.set_cons_zero, List.set_cons_succ]
                refine wpAnyH_take (i := 6) (oi := ?oi6_78) (v := ?v6_78) ?hi6_78 (by kernel_rfl) ?hf6_78 (by kernel_rfl) ?hq6_78 ?hy6_78 hHeld ?rest6_78
                case hi6_78 => (simp only [List.getElem?_toArray, List.getElem?_cons_succ, List.getElem?_cons_zero]; try exact rfl)
                case hf6_78 => kernel_rfl
                case hq6_78 => exact fun _ _ _ h => h
                case hy6_78 => (refine Or.inl ⟨rfl, ?_⟩; intro w hSw; (try dsimp only at hSw); go_simp; try with_reducible rfl)
                try simp only [Act.put, List.setIfInBounds_toArray, List.set_cons_zero, List.set_cons_succ]
                refine wpAnyH_take (i := 7) (oi := ?oi7_79) (v := ?v7_79) ?hi7_79 (by kernel_rfl) ?hf7_79 (by kernel_rfl) ?hq7_79 ?hy7_79 hHeld ?rest7_79
                case hi7_79 => (simp only [List.getElem?_toArray, List.getElem?_cons_succ, List.getElem?_cons_zero]; try exact rfl)
                case hf7_79 => kernel_rfl
                case hq7_79 => exact fun _ _ _ h => h
                case hy7_79 => (refine Or.inl ⟨rfl, ?_⟩; intro w hSw; (try dsimp only at hSw); go_simp; try with_reducible rfl)
                try simp only [Act.put, List.setIfInBounds_toArray, List.set_cons_zero, List.set_cons_succ]
                refine wpAnyH_take (i := 8) (oi := ?oi8_80) (v := ?v8_80) ?hi8_80 (by kernel_rfl) ?hf8_80 (by kernel_rfl) ?hq8_80 ?hy8_80 hHeld ?rest8_80
                case hi8_80 => (simp only [List.getElem?_toArray, List.getElem?_cons_succ, List.getElem?_cons_zero]; try exact rfl)
                case hf8_80 => kernel_rfl
                case hq8_80 => exact fun _ _ _ h => h
                case hy8_80 => (refine Or.inl ⟨rfl, ?_⟩; intro w hSw; (try dsimp only at hSw); go_simp; try with_reducible rfl)
                try simp only [Act.put, List.setIfInBounds_toArray, List.set_cons_zero, List.set_cons_succ]
                refine wpAnyH_take (i := 9) (oi := ?oi9_81) (v := ?v9_81) ?hi9_81 (by kernel_rfl) ?hf9_81 (by kernel_rfl) ?hq9_81 ?hy9_81 hHeld ?rest9_81
                case hi9_81 => (simp only [List.getElem?_toArray, List.getElem?_cons_succ, List.getElem?_cons_zero]; try exact rfl)
                case hf9_81 => kernel_rfl
                case hq9_81 => exact fun _ _ _ h => h
                case hy9_81 => (refine Or.inl ⟨rfl, ?_⟩; intro w hSw; (try dsimp only at hSw); go_simp; try with_reducible rfl)
                try simp only [Act.put, List.setIfInBounds_toArray, List.set_cons_zero, List.set_cons_succ]
                refine wpAnyH_take (i := 10) (oi := ?oi10_82) (v := ?v10_82) ?hi10_82 (by kernel_rfl) ?hf10_82 (by kernel_rfl) ?hq10_82 ?hy10_82 hHeld ?rest10_82
                case hi10_82 => (simp only [List.getElem?_toArray, List.getElem?_cons_succ, List.getElem?_cons_zero]; try exact rfl)
                case hf10_82 => kernel_rfl
                case hq10_82 => exact fun _ _ _ h => h
                case hy10_82 => (refine Or.inl ⟨rfl, ?_⟩; intro w hSw; (try dsimp only at hSw); go_simp; try with_reducible rfl)
                try simp only [Act.put, List.setIfInBounds_toArray, List.set_cons_zero, List.set_cons_succ]
                refine wpAnyH_ready (rs := [4]) (by kernel_rfl) (by simp) ?_
                refine AllReadyH.cons (by simp only [List.getElem?_toArray, List.getElem?_cons_succ, List.getElem?_cons_zero]; try exact rfl) (fun K hK => ?_) AllReadyH.nil
                go_simp
                refine (Itoa_any v _ (HG.out.below (HB1.out.drew)) hvb.1 hvb.2).mono ?_
                rintro e W2 ⟨rfl, hb2⟩
                have HB2 := Lib.hid (show Below W1.heap.size W1 W2 from (Below.refl _ _).drew.trans hb2)
                have hr2 := HR1.out.below HB2.out
                have HR2 := Lib.hid hr2
                have lt2 := (Array.getElem?_eq_some_iff.1 hr2).1
                clear c0 c1 hf hb2
                obtain ⟨c0, c1, hf⟩ := hr2.cells
                clear hr2
                refine hK.out _ _ c0 (fun hHeld => ?_)
                clear hK K
                try simp only [Act.put, List.setIfInBounds_toArray, List.set_cons_zero, List.set_cons_succ]
                refine wpAnyH_take (i := 11) (oi := ?oi11_83) (v := ?v11_83) ?hi11_83 (by kernel_rfl) ?hf11_83 (by kernel_rfl) ?hq11_83 ?hy11_83 hHeld ?rest11_83
                case hi11_83 => (simp only [List.getElem?_toArray, List.getElem?_cons_succ, List.getElem?_cons_zero]; try exact rfl)
                case hf11_83 => kernel_rfl
                case hq11_83 => exact fun _ _ _ h => h
                case hy11_83 => (refine Or.inl ⟨rfl, ?_⟩; intro w hSw; (try dsimp only at hSw); go_simp; try with_reducible rfl)
                try simp only [Act.put, List.setIfInBounds_toArray, List.set_cons_zero, List.set_cons_succ]
                refine wpAnyH_take (i := 12) (oi := ?oi12_84) (v := ?v12_84) ?hi12_84 (by kernel_rfl) ?hf12_84 (by kernel_rfl) ?hq12_84 ?hy12_84 hHeld ?rest12_84
                case hi12_84 => (simp only [List.getElem?_toArray, List.getElem?_cons_succ, List.getElem?_cons_zero]; try exact rfl)
                case hf12_84 => kernel_rfl
                case hq12_84 => exact fun _ _ _ h => h
                case hy12_84 => (refine Or.inl ⟨rfl, ?_⟩; intro w hSw; (try dsimp only at hSw); go_simp; try with_reducible rfl)
                try simp only [Act.put, List.setIfInBounds_toArray, List.set_cons_zero, List.set_cons_succ]
                refine wpAnyH_done (by kernel_rfl) ?_ _
                go_wp2_with fail
                go_ret
                rw [F.out]
                dsimp only
                rw [HNP.out, HREST.out]
                refine ⟨rfl, HR2.out.setS (s.drop k), KR.set ((KR.of_below HB1.out (Nat.le_of_lt hlt)).trans (KR.of_below HB2.out (Nat.le_of_lt lt1))) _ _⟩
              · have hbq : (Lib.itoa v == ((⟨s.toArray⟩ : ByteArray).extract 0 k).toList) = false := by rw [HCUT.out, show (⟨(numP s).toArray⟩ : ByteArray).toList = numP s by simp]; exact beq_eq_false_iff_ne.2 hvi
                have F := Lib.hid (numM_no (ok := ok) HV.out hvi)
                clear hvi
                go_wp2_with fail
                refine wp_region_held_drew (S := fun w' => w'.cell? ⟨rb, 0, none⟩ = some (.string ⟨s.toArray⟩)) (by kernel_rfl) ?_ (fun hHeld => ?_)
                · exact c0
                refine wpAnyH_take (i := 0) (oi := ?oi0_85) (v := ?v0_85) ?hi0_85 (by kernel_rfl) ?hf0_85 (by kernel_rfl) ?hq0_85 ?hy0_85 hHeld ?rest0_85
                case hi0_85 => (simp only [List.getElem?_toArray, List.getElem?_cons_zero]; try exact rfl)
                case hf0_85 => kernel_rfl
                case hq0_85 => exact fun _ _ _ h => h
                case hy0_85 => (refine Or.inl ⟨rfl, ?_⟩; intro w hSw; (try dsimp only at hSw); go_simp; try with_reducible rfl)
                try simp only [Act.put, List.setIfInBounds_toArray, List.set_cons_zero, List.set_cons_succ]
                refine wpAnyH_take (i := 1) (oi := ?oi1_86) (v := ?v1_86) ?hi1_86 (by kernel_rfl) ?hf1_86 (by kernel_rfl) ?hq1_86 ?hy1_86 hHeld ?rest1_86
                case hi1_86 => (simp only [List.getElem?_toArray, List.getElem?_cons_succ, List.getElem?_cons_zero]; try exact rfl)
                case hf1_86 => kernel_rfl
                case hq1_86 => exact fun _ _ _ h => h
                case hy1_86 => (refine Or.inl ⟨rfl, ?_⟩; intro w hSw; (try dsimp only at hSw); go_simp; try with_reducible rfl)
                try simp only [Act.put, List.setIfInBounds_toArray, List.set_cons_zero, List.set_cons_succ]
                refine wpAnyH_take (i := 2) (oi := ?oi2_87) (v := ?v2_87) ?hi2_87 (by kernel_rfl) ?hf2_87 (by kernel_rfl) ?hq2_87 ?hy2_87 hHeld ?rest2_87
                case hi2_87 => (simp only [List.getElem?_toArray, List.getElem?_cons_succ, List.getElem?_cons_zero]; try exact rfl)
                case hf2_87 => kernel_rfl
                case hq2_87 => exact fun _ _ _ h => h
                case hy2_87 => (refine Or.inl ⟨rfl, ?_⟩; intro w hSw; (try dsimp only at hSw); go_simp; try with_reducible rfl)
                try simp only [Act.put, List.setIfInBounds_toArray, List.set_cons_zero, List.set_cons_succ]
                refine wpAnyH_take (i := 3) (oi := ?oi3_88) (v := ?v3_88) ?hi3_88 (by kernel_rfl) ?hf3_88 (by kernel_rfl) ?hq3_88 ?hy3_88 hHeld ?rest3_88
                case hi3_88 => (simp only [List.getElem?_toArray, List.getElem?_cons_succ, List.getElem?_cons_zero]; try exact rfl)
                case hf3_88 => kernel_rfl
                case hq3_88 => exact fun _ _ _ h => h
                case hy3_88 => (refine Or.inl ⟨rfl, ?_⟩; intro w hSw; (try dsimp only at hSw); go_simp; try with_reducible rfl)
                try simp only [Act.put, List.setIfInBounds_toArray, List.set_cons_zero, List.set_cons_succ]
                refine wpAnyH_take (i := 5) (oi := ?oi5_89) (v := ?v5_89) ?hi5_89 (by kernel_rfl) ?hf5_89 (by kernel_rfl) ?hq5_89 ?hy5_89 hHeld ?rest5_89
                case hi5_89 => (simp only [List.getElem?_toArray, List.getElem?_cons_succ, List.getElem?_cons_zero]; try exact rfl)
                case hf5_89 => kernel_rfl
                case hq5_89 => exact fun _ _ _ h => h
                case hy5_89 => (refine Or.inl ⟨rfl, ?_⟩; intro w hSw; (try dsimp only at hSw); go_simp; try with_reducible rfl)
                try simp only [Act.put, List.setIfInBounds_toArray, List.set_cons_zero, List.set_cons_succ]
                refine wpAnyH_take (i := 6) (oi := ?oi6_90) (v := ?v6_90) ?hi6_90 (by kernel_rfl) ?hf6_90 (by kernel_rfl) ?hq6_90 ?hy6_90 hHeld ?rest6_90
                case hi6_90 => (simp only [List.getElem?_toArray, List.getElem?_cons_succ, List.getElem?_cons_zero]; try exact rfl)
                case hf6_90 => kernel_rfl
                case hq6_90 => exact fun _ _ _ h => h
                case hy6_90 => (refine Or.inl ⟨rfl, ?_⟩; intro w hSw; (try dsimp only at hSw); go_simp; try with_reducible rfl)
                try simp only [Act.put, List.setIfInBounds_toArray, List.set_cons_zero, List.set_cons_succ]
                refine wpAnyH_take (i := 7) (oi := ?oi7_91) (v := ?v7_91) ?hi7_91 (by kernel_rfl) ?hf7_91 (by kernel_rfl) ?hq7_91 ?hy7_91 hHeld ?rest7_91
                case hi7_91 => (simp only [List.getElem?_toArray, List.getElem?_cons_succ, List.getElem?_cons_zero]; try exact rfl)
                case hf7_91 => kernel_rfl
                case hq7_91 => exact fun _ _ _ h => h
                case hy7_91 => (refine Or.inl ⟨rfl, ?_⟩; intro w hSw; (try dsimp only at hSw); go_simp; try with_reducible rfl)
                try simp only [Act.put, List.setIfInBounds_toArray, List.set_cons_zero, List.set_cons_succ]
                refine wpAnyH_take (i := 8) (oi := ?oi8_92) (v := ?v8_92) ?hi8_92 (by kernel_rfl) ?hf8_92 (by kernel_rfl) ?hq8_92 ?hy8_92 hHeld ?rest8_92
                case hi8_92 => (simp only [List.getElem?_toArray, List.getElem?_cons_succ, List.getElem?_cons_zero]; try exact rfl)
                case hf8_92 => kernel_rfl
                case hq8_92 => exact fun _ _ _ h => h
                case hy8_92 => (refine Or.inl ⟨rfl, ?_⟩; intro w hSw; (try dsimp only at hSw); go_simp; try with_reducible rfl)
                try simp only [Act.put, List.setIfInBounds_toArray, List.set_cons_zero, List.set_cons_succ]
                refine wpAnyH_take (i := 9) (oi := ?oi9_93) (v := ?v9_93) ?hi9_93 (by kernel_rfl) ?hf9_93 (by kernel_rfl) ?hq9_93 ?hy9_93 hHeld ?rest9_93
                case hi9_93 => (simp only [List.getElem?_toArray, List.getElem?_cons_succ, List.getElem?_cons_zero]; try exact rfl)
                case hf9_93 => kernel_rfl
                case hq9_93 => exact fun _ _ _ h => h
                case hy9_93 => (refine Or.inl ⟨rfl, ?_⟩; intro w hSw; (try dsimp only at hSw); go_simp; try with_reducible rfl)
                try simp only [Act.put, List.setIfInBounds_toArray, List.set_cons_zero, List.set_cons_succ]
                refine wpAnyH_take (i := 10) (oi := ?oi10_94) (v := ?v10_94) ?hi10_94 (by kernel_rfl) ?hf10_94 (by kernel_rfl) ?hq10_94 ?hy10_94 hHeld ?rest10_94
                case hi10_94 => (simp only [List.getElem?_toArray, List.getElem?_cons_succ, List.getElem?_cons_zero]; try exact rfl)
                case hf10_94 => kernel_rfl
                case hq10_94 => exact fun _ _ _ h => h
                case hy10_94 => (refine Or.inl ⟨rfl, ?_⟩; intro w hSw; (try dsimp only at hSw); go_simp; try with_reducible rfl)
                try simp only [Act.put, List.setIfInBounds_toArray, List.set_cons_zero, List.set_cons_succ]
                refine wpAnyH_ready (rs := [4]) (by kernel_rfl) (by simp) ?_
                refine AllReadyH.cons (by simp only [List.getElem?_toArray, List.getElem?_cons_succ, List.getElem?_cons_zero]; try exact rfl) (fun K hK => ?_) AllReadyH.nil
                go_simp
                refine (Itoa_any v _ (HG.out.below (HB1.out.drew)) hvb.1 hvb.2).mono ?_
                rintro e W2 ⟨rfl, hb2⟩
                have HB2 := Lib.hid (show Below W1.heap.size W1 W2 from (Below.refl _ _).drew.trans hb2)
                have hr2 := HR1.out.below HB2.out
                have HR2 := Lib.hid hr2
                have lt2 := (Array.getElem?_eq_some_iff.1 hr2).1
                clear c0 c1 hf hb2
                obtain ⟨c0, c1, hf⟩ := hr2.cells
                clear hr2
                refine hK.out _ _ c0 (fun hHeld => ?_)
                clear hK K
                try simp only [Act.put, List.setIfInBounds_toArray, List.set_cons_zero, List.set_cons_succ]
                refine wpAnyH_take (i := 11) (oi := ?oi11_95) (v := ?v11_95) ?hi11_95 (by kernel_rfl) ?hf11_95 (by kernel_rfl) ?hq11_95 ?hy11_95 hHeld ?rest11_95
                case hi11_95 => (simp only [List.getElem?_toArray, List.getElem?_cons_succ, List.getElem?_cons_zero]; try exact rfl)
                case hf11_95 => kernel_rfl
                case hq11_95 => exact fun _ _ _ h => h
                case hy11_95 => (refine Or.inl ⟨rfl, ?_⟩; intro w hSw; (try dsimp only at hSw); go_simp; try with_reducible rfl)
                try simp only [Act.put, List.setIfInBounds_toArray, List.set_cons_zero, List.set_cons_succ]
                refine wpAnyH_take (i := 12) (oi := ?oi12_96) (v := ?v12_96) ?hi12_96 (by kernel_rfl) ?hf12_96 (by kernel_rfl) ?hq12_96 ?hy12_96 hHeld ?rest12_96
                case hi12_96 => (simp only [List.getElem?_toArray, List.getElem?_cons_succ, List.getElem?_cons_zero]; try exact rfl)
                case hf12_96 => kernel_rfl
                case hq12_96 => exact fun _ _ _ h => h
                case hy12_96 => (refine Or.inl ⟨rfl, ?_⟩; intro w hSw; (try dsimp only at hSw); go_simp; try with_reducible rfl)
                try simp only [Act.put, List.setIfInBounds_toArray, List.set_cons_zero, List.set_cons_succ]
                refine wpAnyH_done (by kernel_rfl) ?_ _
                go_wp2_with fail
                go_ret
                rw [F.out]
                exact ⟨rfl, HR2.out.setOk false, KR.set ((KR.of_below HB1.out (Nat.le_of_lt hlt)).trans (KR.of_below HB2.out (Nat.le_of_lt lt1))) _ _⟩
            · have hA : ∀ v, Lib.atoiAll (numP s) ≠ .ok v := fun v hv => hA ⟨v, hv⟩
              have F := Lib.hid (numM_err (ok := ok) hA)
              refine (Atoi_no _ _ HG.out (by rw [HCUT.out]; show (numP s).toArray.size ≤ _; rw [List.size_toArray, HNP.out]; omega) (by rw [HCUT.out]; exact hA)).mono ?_
              rintro e W1 ⟨⟨v, p, rfl⟩, hb1⟩
              have HB1 := Lib.hid hb1
              have hr1 := H.out.below hb1
              have HR1 := Lib.hid hr1
              clear c0 c1 hf hb1 hA
              obtain ⟨c0, c1, hf⟩ := hr1.cells
              have lt1 := (Array.getElem?_eq_some_iff.1 hr1).1
              clear hr1
              go_wp2_with fail
              go_quiet (fail)
              go_wp2_with fail
              go_ret
              rw [F.out]
              exact ⟨rfl, (show RAt (W1.drewN nq) rb s ok from HR1.out).setOk false, KR.set (KR.of_below (below_drewN HB1.out nq) (Nat.le_of_lt hlt)) _ _⟩
          · have hk1 : ((k : Int) == 0) = false := by rw [beq_eq_false_iff_ne]; omega
            clear hcc hc hd hd2 hk0
            go_wp2_with fail
            by_cases hA : ∃ v, Lib.atoiAll (numP s) = .ok v
            · obtain ⟨v, hv⟩ := hA
              have hvb := Lib.atoiAll_bounds hv
              refine (Atoi_yes _ _ (by rw [HCUT.out]; show (numP s).toArray.size ≤ _; rw [List.size_toArray, HNP.out]; omega) v (by rw [HCUT.out]; exact hv)).mono ?_
              rintro e W1 ⟨rfl, hb1⟩
              have HB1 := Lib.hid hb1
              have HV := Lib.hid hv
              have hr1 := H.out.below hb1
              have HR1 := Lib.hid hr1
              have hz1 := hb1.size
              clear c0 c1 hf hb1 hv
              obtain ⟨c0, c1, hf⟩ := hr1.cells
              have lt1 := (Array.getElem?_eq_some_iff.1 hr1).1
              clear hr1
              by_cases hvi : Lib.itoa v = numP s
              · have hbq : (Lib.itoa v == ((⟨s.toArray⟩ : ByteArray).extract 0 k).toList) = true := by rw [HCUT.out, show (⟨(numP s).toArray⟩ : ByteArray).toList = numP s by simp]; exact beq_iff_eq.2 hvi
                have F := Lib.hid (numM_yes (ok := ok) HV.out hvi)
                clear hvi
                go_wp2_with fail
                refine wp_region_held_drew (S := fun w' => w'.cell? ⟨rb, 0, none⟩ = some (.string ⟨s.toArray⟩)) (by kernel_rfl) ?_ (fun hHeld => ?_)
                · exact c0
                refine wpAnyH_take (i := 0) (oi := ?oi0_97) (v := ?v0_97) ?hi0_97 (by kernel_rfl) ?hf0_97 (by kernel_rfl) ?hq0_97 ?hy0_97 hHeld ?rest0_97
                case hi0_97 => (simp only [List.getElem?_toArray, List.getElem?_cons_zero]; try exact rfl)
                case hf0_97 => kernel_rfl
                case hq0_97 => exact fun _ _ _ h => h
                case hy0_97 => (refine Or.inl ⟨rfl, ?_⟩; intro w hSw; (try dsimp only at hSw); go_simp; try with_reducible rfl)
                try simp only [Act.put, List.setIfInBounds_toArray, List.set_cons_zero, List.set_cons_succ]
                refine wpAnyH_take (i := 1) (oi := ?oi1_98) (v := ?v1_98) ?hi1_98 (by kernel_rfl) ?hf1_98 (by kernel_rfl) ?hq1_98 ?hy1_98 hHeld ?rest1_98
                case hi1_98 => (simp only [List.getElem?_toArray, List.getElem?_cons_succ, List.getElem?_cons_zero]; try exact rfl)
                case hf1_98 => kernel_rfl
                case hq1_98 => exact fun _ _ _ h => h
                case hy1_98 => (refine Or.inl ⟨rfl, ?_⟩; intro w hSw; (try dsimp only at hSw); go_simp; try with_reducible rfl)
                try simp only [Act.put, List.setIfInBounds_toArray, List.set_cons_zero, List.set_cons_succ]
                refine wpAnyH_take (i := 2) (oi := ?oi2_99) (v := ?v2_99) ?hi2_99 (by kernel_rfl) ?hf2_99 (by kernel_rfl) ?hq2_99 ?hy2_99 hHeld ?rest2_99
                case hi2_99 => (simp only [List.getElem?_toArray, List.getElem?_cons_succ, List.getElem?_cons_zero]; try exact rfl)
                case hf2_99 => kernel_rfl
                case hq2_99 => exact fun _ _ _ h => h
                case hy2_99 => (refine Or.inl ⟨rfl, ?_⟩; intro w hSw; (try dsimp only at hSw); go_simp; try with_reducible rfl)
                try simp only [Act.put, List.setIfInBounds_toArray, List.set_cons_zero, List.set_cons_succ]
                refine wpAnyH_take (i := 3) (oi := ?oi3_100) (v := ?v3_100) ?hi3_100 (by kernel_rfl) ?hf3_100 (by kernel_rfl) ?hq3_100 ?hy3_100 hHeld ?rest3_100
                case hi3_100 => (simp only [List.getElem?_toArray, List.getElem?_cons_succ, List.getElem?_cons_zero]; try exact rfl)
                case hf3_100 => kernel_rfl
                case hq3_100 => exact fun _ _ _ h => h
                case hy3_100 => (refine Or.inl ⟨rfl, ?_⟩; intro w hSw; (try dsimp only at hSw); go_simp; try with_reducible rfl)
                try simp only [Act.put, List.setIfInBounds_toArray, List.set_cons_zero, List.set_cons_succ]
                refine wpAnyH_take (i := 5) (oi := ?oi5_101) (v := ?v5_101) ?hi5_101 (by kernel_rfl) ?hf5_101 (by kernel_rfl) ?hq5_101 ?hy5_101 hHeld ?rest5_101
                case hi5_101 => (simp only [List.getElem?_toArray, List.getElem?_cons_succ, List.getElem?_cons_zero]; try exact rfl)
                case hf5_101 => kernel_rfl
                case hq5_101 => exact fun _ _ _ h => h
                case hy5_101 => (refine Or.inl ⟨rfl, ?_⟩; intro w hSw; (try dsimp only at hSw); go_simp; try with_reducible rfl)
                try simp only [Act.put, List.setIfInBounds_toArray, List.set_cons_zero, List.set_cons_succ]
                refine wpAnyH_take (i := 6) (oi := ?oi6_102) (v := ?v6_102) ?hi6_102 (by kernel_rfl) ?hf6_102 (by kernel_rfl) ?hq6_102 ?hy6_102 hHeld ?rest6_102
                case hi6_102 => (simp only [List.getElem?_toArray, List.getElem?_cons_succ, List.getElem?_cons_zero]; try exact rfl)
                case hf6_102 => kernel_rfl
                case hq6_102 => exact fun _ _ _ h => h
                case hy6_102 => (refine Or.inl ⟨rfl, ?_⟩; intro w hSw; (try dsimp only at hSw); go_simp; try with_reducible rfl)
                try simp only [Act.put, List.setIfInBounds_toArray, List.set_cons_zero, List.set_cons_succ]
                refine wpAnyH_take (i := 7) (oi := ?oi7_103) (v := ?v7_103) ?hi7_103 (by kernel_rfl) ?hf7_103 (by kernel_rfl) ?hq7_103 ?hy7_103 hHeld ?rest7_103
                case hi7_103 => (simp only [List.getElem?_toArray, List.getElem?_cons_succ, List.getElem?_cons_zero]; try exact rfl)
                case hf7_103 => kernel_rfl
                case hq7_103 => exact fun _ _ _ h => h
                case hy7_103 => (refine Or.inl ⟨rfl, ?_⟩; intro w hSw; (try dsimp only at hSw); go_simp; try with_reducible rfl)
                try simp only [Act.put, List.setIfInBounds_toArray, List.set_cons_zero, List.set_cons_succ]
                refine wpAnyH_take (i := 8) (oi := ?oi8_104) (v := ?v8_104) ?hi8_104 (by kernel_rfl) ?hf8_104 (by kernel_rfl) ?hq8_104 ?hy8_104 hHeld ?rest8_104
                case hi8_104 => (simp only [List.getElem?_toArray, List.getElem?_cons_succ, List.getElem?_cons_zero]; try exact rfl)
                case hf8_104 => kernel_rfl
                case hq8_104 => exact fun _ _ _ h => h
                case hy8_104 => (refine Or.inl ⟨rfl, ?_⟩; intro w hSw; (try dsimp only at hSw); go_simp; try with_reducible rfl)
                try simp only [Act.put, List.setIfInBounds_toArray, List.set_cons_zero, List.set_cons_succ]
                refine wpAnyH_take (i := 9) (oi := ?oi9_105) (v := ?v9_105) ?hi9_105 (by kernel_rfl) ?hf9_105 (by kernel_rfl) ?hq9_105 ?hy9_105 hHeld ?rest9_105
                case hi9_105 => (simp only [List.getElem?_toArray, List.getElem?_cons_succ, List.getElem?_cons_zero]; try exact rfl)
                case hf9_105 => kernel_rfl
                case hq9_105 => exact fun _ _ _ h => h
                case hy9_105 => (refine Or.inl ⟨rfl, ?_⟩; intro w hSw; (try dsimp only at hSw); go_simp; try with_reducible rfl)
                try simp only [Act.put, List.setIfInBounds_toArray, List.set_cons_zero, List.set_cons_succ]
                refine wpAnyH_take (i := 10) (oi := ?oi10_106) (v := ?v10_106) ?hi10_106 (by kernel_rfl) ?hf10_106 (by kernel_rfl) ?hq10_106 ?hy10_106 hHeld ?rest10_106
                case hi10_106 => (simp only [List.getElem?_toArray, List.getElem?_cons_succ, List.getElem?_cons_zero]; try exact rfl)
                case hf10_106 => kernel_rfl
                case hq10_106 => exact fun _ _ _ h => h
                case hy10_106 => (refine Or.inl ⟨rfl, ?_⟩; intro w hSw; (try dsimp only at hSw); go_simp; try with_reducible rfl)
                try simp only [Act.put, List.setIfInBounds_toArray, List.set_cons_zero, List.set_cons_succ]
                refine wpAnyH_ready (rs := [4]) (by kernel_rfl) (by simp) ?_
                refine AllReadyH.cons (by simp only [List.getElem?_toArray, List.getElem?_cons_succ, List.getElem?_cons_zero]; try exact rfl) (fun K hK => ?_) AllReadyH.nil
                go_simp
                refine (Itoa_any v _ (HG.out.below (HB1.out.drew)) hvb.1 hvb.2).mono ?_
                rintro e W2 ⟨rfl, hb2⟩
                have HB2 := Lib.hid (show Below W1.heap.size W1 W2 from (Below.refl _ _).drew.trans hb2)
                have hr2 := HR1.out.below HB2.out
                have HR2 := Lib.hid hr2
                have lt2 := (Array.getElem?_eq_some_iff.1 hr2).1
                clear c0 c1 hf hb2
                obtain ⟨c0, c1, hf⟩ := hr2.cells
                clear hr2
                refine hK.out _ _ c0 (fun hHeld => ?_)
                clear hK K
                try simp only [Act.put, List.setIfInBounds_toArray, List.set_cons_zero, List.set_cons_succ]
                refine wpAnyH_take (i := 11) (oi := ?oi11_107) (v := ?v11_107) ?hi11_107 (by kernel_rfl) ?hf11_107 (by kernel_rfl) ?hq11_107 ?hy11_107 hHeld ?rest11_107
                case hi11_107 => (simp only [List.getElem?_toArray, List.getElem?_cons_succ, List.getElem?_cons_zero]; try exact rfl)
                case hf11_107 => kernel_rfl
                case hq11_107 => exact fun _ _ _ h => h
                case hy11_107 => (refine Or.inl ⟨rfl, ?_⟩; intro w hSw; (try dsimp only at hSw); go_simp; try with_reducible rfl)
                try simp only [Act.put, List.setIfInBounds_toArray, List.set_cons_zero, List.set_cons_succ]
                refine wpAnyH_take (i := 12) (oi := ?oi12_108) (v := ?v12_108) ?hi12_108 (by kernel_rfl) ?hf12_108 (by kernel_rfl) ?hq12_108 ?hy12_108 hHeld ?rest12_108
                case hi12_108 => (simp only [List.getElem?_toArray, List.getElem?_cons_succ, List.getElem?_cons_zero]; try exact rfl)
                case hf12_108 => kernel_rfl
                case hq12_108 => exact fun _ _ _ h => h
                case hy12_108 => (refine Or.inl ⟨rfl, ?_⟩; intro w hSw; (try dsimp only at hSw); go_simp; try with_reducible rfl)
                try simp only [Act.put, List.setIfInBounds_toArray, List.set_cons_zero, List.set_cons_succ]
                refine wpAnyH_done (by kernel_rfl) ?_ _
                go_wp2_with fail
                go_ret
                rw [F.out]
                dsimp only
                rw [HNP.out, HREST.out]
                refine ⟨rfl, HR2.out.setS (s.drop k), KR.set ((KR.of_below HB1.out (Nat.le_of_lt hlt)).trans (KR.of_below HB2.out (Nat.le_of_lt lt1))) _ _⟩
              · have hbq : (Lib.itoa v == ((⟨s.toArray⟩ : ByteArray).extract 0 k).toList) = false := by rw [HCUT.out, show (⟨(numP s).toArray⟩ : ByteArray).toList = numP s by simp]; exact beq_eq_false_iff_ne.2 hvi
                have F := Lib.hid (numM_no (ok := ok) HV.out hvi)
                clear hvi
                go_wp2_with fail
                refine wp_region_held_drew (S := fun w' => w'.cell? ⟨rb, 0, none⟩ = some (.string ⟨s.toArray⟩)) (by kernel_rfl) ?_ (fun hHeld => ?_)
                · exact c0
                refine wpAnyH_take (i := 0) (oi := ?oi0_109) (v := ?v0_109) ?hi0_109 (by kernel_rfl) ?hf0_109 (by kernel_rfl) ?hq0_109 ?hy0_109 hHeld ?rest0_109
                case hi0_109 => (simp only [List.getElem?_toArray, List.getElem?_cons_zero]; try exact rfl)
                case hf0_109 => kernel_rfl
                case hq0_109 => exact fun _ _ _ h => h
                case hy0_109 => (refine Or.inl ⟨rfl, ?_⟩; intro w hSw; (try dsimp only at hSw); go_simp; try with_reducible rfl)
                try simp only [Act.put, List.setIfInBounds_toArray, List.set_cons_zero, List.set_cons_succ]
                refine wpAnyH_take (i := 1) (oi := ?oi1_110) (v := ?v1_110) ?hi1_110 (by kernel_rfl) ?hf1_110 (by kernel_rfl) ?hq1_110 ?hy1_110 hHeld ?rest1_110
                case hi1_110 => (simp only [List.getElem?_toArray, List.getElem?_cons_succ, List.getElem?_cons_zero]; try exact rfl)
                case hf1_110 => kernel_rfl
                case hq1_110 => exact fun _ _ _ h => h
                case hy1_110 => (refine Or.inl ⟨rfl, ?_⟩; intro w hSw; (try dsimp only at hSw); go_simp; try with_reducible rfl)
                try simp only [Act.put, List.setIfInBounds_toArray, List.set_cons_zero, List.set_cons_succ]
                refine wpAnyH_take (i := 2) (oi := ?oi2_111) (v := ?v2_111) ?hi2_111 (by kernel_rfl) ?hf2_111 (by kernel_rfl) ?hq2_111 ?hy2_111 hHeld ?rest2_111
                case hi2_111 => (simp only [List.getElem?_toArray, List.getElem?_cons_succ, List.getElem?_cons_zero]; try exact rfl)
                case hf2_111 => kernel_rfl
                case hq2_111 => exact fun _ _ _ h => h
                case hy2_111 => (refine Or.inl ⟨rfl, ?_⟩; intro w hSw; (try dsimp only at hSw); go_simp; try with_reducible rfl)
                try simp only [Act.put, List.setIfInBounds_toArray, List.set_cons_zero, List.set_cons_succ]
                refine wpAnyH_take (i := 3) (oi := ?oi3_112) (v := ?v3_112) ?hi3_112 (by kernel_rfl) ?hf3_112 (by kernel_rfl) ?hq3_112 ?hy3_112 hHeld ?rest3_112
                case hi3_112 => (simp only [List.getElem?_toArray, List.getElem?_cons_succ, List.getElem?_cons_zero]; try exact rfl)
                case hf3_112 => kernel_rfl
                case hq3_112 => exact fun _ _ _ h => h
                case hy3_112 => (refine Or.inl ⟨rfl, ?_⟩; intro w hSw; (try dsimp only at hSw); go_simp; try with_reducible rfl)
                try simp only [Act.put, List.setIfInBounds_toArray, List.set_cons_zero, List.set_cons_succ]
                refine wpAnyH_take (i := 5) (oi := ?oi5_113) (v := ?v5_113) ?hi5_113 (by kernel_rfl) ?hf5_113 (by kernel_rfl) ?hq5_113 ?hy5_113 hHeld ?rest5_113
                case hi5_113 => (simp only [List.getElem?_toArray, List.getElem?_cons_succ, List.getElem?_cons_zero]; try exact rfl)
                case hf5_113 => kernel_rfl
                case hq5_113 => exact fun _ _ _ h => h
                case hy5_113 => (refine Or.inl ⟨rfl, ?_⟩; intro w hSw; (try dsimp only at hSw); go_simp; try with_reducible rfl)
                try simp only [Act.put, List.setIfInBounds_toArray, List.set_cons_zero, List.set_cons_succ]
                refine wpAnyH_take (i := 6) (oi := ?oi6_114) (v := ?v6_114) ?hi6_114 (by kernel_rfl) ?hf6_114 (by kernel_rfl) ?hq6_114 ?hy6_114 hHeld ?rest6_114
                case hi6_114 => (simp only [List.getElem?_toArray, List.getElem?_cons_succ, List.getElem?_cons_zero]; try exact rfl)
                case hf6_114 => kernel_rfl
                case hq6_114 => exact fun _ _ _ h => h
                case hy6_114 => (refine Or.inl ⟨rfl, ?_⟩; intro w hSw; (try dsimp only at hSw); go_simp; try with_reducible rfl)
                try simp only [Act.put, List.setIfInBounds_toArray, List.set_cons_zero, List.set_cons_succ]
                refine wpAnyH_take (i := 7) (oi := ?oi7_115) (v := ?v7_115) ?hi7_115 (by kernel_rfl) ?hf7_115 (by kernel_rfl) ?hq7_115 ?hy7_115 hHeld ?rest7_115
                case hi7_115 => (simp only [List.getElem?_toArray, List.getElem?_cons_succ, List.getElem?_cons_zero]; try exact rfl)
                case hf7_115 => kernel_rfl
                case hq7_115 => exact fun _ _ _ h => h
                case hy7_115 => (refine Or.inl ⟨rfl, ?_⟩; intro w hSw; (try dsimp only at hSw); go_simp; try with_reducible rfl)
                try simp only [Act.put, List.setIfInBounds_toArray, List.set_cons_zero, List.set_cons_succ]
                refine wpAnyH_take (i := 8) (oi := ?oi8_116) (v := ?v8_116) ?hi8_116 (by kernel_rfl) ?hf8_116 (by kernel_rfl) ?hq8_116 ?hy8_116 hHeld ?rest8_116
                case hi8_116 => (simp only [List.getElem?_toArray, List.getElem?_cons_succ, List.getElem?_cons_zero]; try exact rfl)
                case hf8_116 => kernel_rfl
                case hq8_116 => exact fun _ _ _ h => h
                case hy8_116 => (refine Or.inl ⟨rfl, ?_⟩; intro w hSw; (try dsimp only at hSw); go_simp; try with_reducible rfl)
                try simp only [Act.put, List.setIfInBounds_toArray, List.set_cons_zero, List.set_cons_succ]
                refine wpAnyH_take (i := 9) (oi := ?oi9_117) (v := ?v9_117) ?hi9_117 (by kernel_rfl) ?hf9_117 (by kernel_rfl) ?hq9_117 ?hy9_117 hHeld ?rest9_117
                case hi9_117 => (simp only [List.getElem?_toArray, List.getElem?_cons_succ, List.getElem?_cons_zero]; try exact rfl)
                case hf9_117 => kernel_rfl
                case hq9_117 => exact fun _ _ _ h => h
                case hy9_117 => (refine Or.inl ⟨rfl, ?_⟩; intro w hSw; (try dsimp only at hSw); go_simp; try with_reducible rfl)
                try simp only [Act.put, List.setIfInBounds_toArray, List.set_cons_zero, List.set_cons_succ]
                refine wpAnyH_take (i := 10) (oi := ?oi10_118) (v := ?v10_118) ?hi10_118 (by kernel_rfl) ?hf10_118 (by kernel_rfl) ?hq10_118 ?hy10_118 hHeld ?rest10_118
                case hi10_118 => (simp only [List.getElem?_toArray, List.getElem?_cons_succ, List.getElem?_cons_zero]; try exact rfl)
                case hf10_118 => kernel_rfl
                case hq10_118 => exact fun _ _ _ h => h
                case hy10_118 => (refine Or.inl ⟨rfl, ?_⟩; intro w hSw; (try dsimp only at hSw); go_simp; try with_reducible rfl)
                try simp only [Act.put, List.setIfInBounds_toArray, List.set_cons_zero, List.set_cons_succ]
                refine wpAnyH_ready (rs := [4]) (by kernel_rfl) (by simp) ?_
                refine AllReadyH.cons (by simp only [List.getElem?_toArray, List.getElem?_cons_succ, List.getElem?_cons_zero]; try exact rfl) (fun K hK => ?_) AllReadyH.nil
                go_simp
                refine (Itoa_any v _ (HG.out.below (HB1.out.drew)) hvb.1 hvb.2).mono ?_
                rintro e W2 ⟨rfl, hb2⟩
                have HB2 := Lib.hid (show Below W1.heap.size W1 W2 from (Below.refl _ _).drew.trans hb2)
                have hr2 := HR1.out.below HB2.out
                have HR2 := Lib.hid hr2
                have lt2 := (Array.getElem?_eq_some_iff.1 hr2).1
                clear c0 c1 hf hb2
                obtain ⟨c0, c1, hf⟩ := hr2.cells
                clear hr2
                refine hK.out _ _ c0 (fun hHeld => ?_)
                clear hK K
                try simp only [Act.put, List.setIfInBounds_toArray, List.set_cons_zero, List.set_cons_succ]
                refine wpAnyH_take (i := 11) (oi := ?oi11_119) (v := ?v11_119) ?hi11_119 (by kernel_rfl) ?hf11_119 (by kernel_rfl) ?hq11_119 ?hy11_119 hHeld ?rest11_119
                case hi11_119 => (simp only [List.getElem?_toArray, List.getElem?_cons_succ, List.getElem?_cons_zero]; try exact rfl)
                case hf11_119 => kernel_rfl
                case hq11_119 => exact fun _ _ _ h => h
                case hy11_119 => (refine Or.inl ⟨rfl, ?_⟩; intro w hSw; (try dsimp only at hSw); go_simp; try with_reducible rfl)
                try simp only [Act.put, List.setIfInBounds_toArray, List.set_cons_zero, List.set_cons_succ]
                refine wpAnyH_take (i := 12) (oi := ?oi12_120) (v := ?v12_120) ?hi12_120 (by kernel_rfl) ?hf12_120 (by kernel_rfl) ?hq12_120 ?hy12_120 hHeld ?rest12_120
                case hi12_120 => (simp only [List.getElem?_toArray, List.getElem?_cons_succ, List.getElem?_cons_zero]; try exact rfl)
                case hf12_120 => kernel_rfl
                case hq12_120 => exact fun _ _ _ h => h
                case hy12_120 => (refine Or.inl ⟨rfl, ?_⟩; intro w hSw; (try dsimp only at hSw); go_simp; try with_reducible rfl)
                try simp only [Act.put, List.setIfInBounds_toArray, List.set_cons_zero, List.set_cons_succ]
                refine wpAnyH_done (by kernel_rfl) ?_ _
                go_wp2_with fail
                go_ret
                rw [F.out]
                exact ⟨rfl, HR2.out.setOk false, KR.set ((KR.of_below HB1.out (Nat.le_of_lt hlt)).trans (KR.of_below HB2.out (Nat.le_of_lt lt1))) _ _⟩
            · have hA : ∀ v, Lib.atoiAll (numP s) ≠ .ok v := fun v hv => hA ⟨v, hv⟩
              have F := Lib.hid (numM_err (ok := ok) hA)
              refine (Atoi_no _ _ HG.out (by rw [HCUT.out]; show (numP s).toArray.size ≤ _; rw [List.size_toArray, HNP.out]; omega) (by rw [HCUT.out]; exact hA)).mono ?_
              rintro e W1 ⟨⟨v, p, rfl⟩, hb1⟩
              have HB1 := Lib.hid hb1
              have hr1 := H.out.below hb1
              have HR1 := Lib.hid hr1
              clear c0 c1 hf hb1 hA
              obtain ⟨c0, c1, hf⟩ := hr1.cells
              have lt1 := (Array.getElem?_eq_some_iff.1 hr1).1
              clear hr1
              go_wp2_with fail
              go_quiet (fail)
              go_wp2_with fail
              go_ret
              rw [F.out]
              exact ⟨rfl, (show RAt (W1.drewN nq) rb s ok from HR1.out).setOk false, KR.set (KR.of_below (below_drewN HB1.out nq) (Nat.le_of_lt hlt)) _ _⟩
    · obtain ⟨c, hc, hcc⟩ := HIN.out k (by omega)
      have hix := HIX.out k c hc
      by_cases hd : isD c = true
      · have hd2 : 48 ≤ c.toNat ∧ c.toNat ≤ 57 := by unfold isD at hd; exact of_decide_eq_true hd
        have hd3 : decide ((48 : Int) ≤ (c.toNat : Int)) = true := decide_eq_true (by omega)
        have hd4 : decide ((c.toNat : Int) ≤ (57 : Int)) = true := decide_eq_true (by omega)
        clear hcc hc hd
        go_wp2_with fail
        exact ⟨⟨k + 1, by rw [HNP.out]; omega, by go_num, rfl⟩, by simp [intOf]; omega⟩
      · obtain ⟨rfl, rfl⟩ := hcc.resolve_left hd
        clear hc hd hcc
        go_wp2_with fail
        exact ⟨⟨1, by rw [HNP.out]; omega, by go_num, rfl⟩, by simp [intOf]; omega⟩
end Go.Proofs.YtmmgfelifmdnbaaDoor.NumW

