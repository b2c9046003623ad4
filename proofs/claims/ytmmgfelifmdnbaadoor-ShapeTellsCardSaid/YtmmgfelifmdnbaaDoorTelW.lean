/- The walk of the law ShapeTells. -/
import Derived.Test.YtmmgfelifmdnbaaDoorLivW
import Derived.Test.YtmmgfelifmdnbaaDoorUpW
namespace Go.Proofs.YtmmgfelifmdnbaaDoor.TelW
set_option linter.unusedVariables false
open Go.RowKit Go.Shelf Base SeqM ShpM ShpV ShpW ShpD ShpT ShpI ShpJ ShpR ShpU ItrD ItrK ItrF ItrG GlbS LivW UpW

theorem much_len {ls : List Nd} (h : muchB ls = false) : ls.length ≤ 1000000 := by
  unfold muchB at h
  rw [Bool.or_eq_false_iff] at h
  have := of_decide_eq_false h.1
  omega
set_option maxHeartbeats 8000000 in
set_option maxRecDepth 100000 in
theorem ShapeTells_any (dim : Int) (nv : Value) (ls : List Nd) (lo : Nat) (w : World) (h : Nds w lo w.heap.size nv ls) (hG : G w) :
    Calls Tryd.prog 3 #[.agg #[.int .i64 dim, nv]] w fun e w' => e = .returned (.bool true) ∧ Below w.heap.size w w' := by
  obtain ⟨A, c, rfl, _, _, _⟩ := h.form
  obtain ⟨n, hn⟩ : ∃ n, ls.length = n := ⟨_, rfl⟩
  have X0 := Lib.hid (show LV w w.heap.size dim A ls.length c ls (w.alloc (.cells #[.int .i64 dim, .slice A ls.length c] 24)) from ⟨heap_alloc_new w _, (h.more (Nat.zero_le _) (Nat.le_refl _)).up (below_a1 _ _), below_a1 _ _⟩)
  have HG := Lib.hid hG
  have HL7 := Lib.hid (fun h => much_len (ls := ls) h)
  rw [hn] at X0 ⊢
  clear h hG hn
  go_enter Tryd.func3, Tryd.ntmps3
  go_wp2_with fail
  refine (Much_any _ _ _ 0 _ X0.out.nds).mono ?_
  rintro e w1 ⟨rfl, hb⟩
  have X1 := Lib.hid (X0.out.below hb)
  clear hb
  obtain ⟨t0, t1⟩ := X1.out.cells
  have lz := X1.out.lt
  cases hm : muchB ls with
  | true =>
    go_wp2_with fail
    refine (lives_any _ (HG.out.below X1.out.low)).mono ?_
    rintro e w2 ⟨rfl, hb⟩
    have X2 := Lib.hid (X1.out.below hb)
    clear hb
    go_wp2_with fail
    go_ret
    exact ⟨rfl, X2.out.low⟩
  | false =>
    have HL7 := Lib.hid (HL7.out hm)
    go_wp2_with fail
    refine wp_region_held_drew (S := fun w' => w'.cell? ⟨w.heap.size, 0, none⟩ = some (.int .i64 dim) ∧ w'.cell? ⟨w.heap.size, 1, none⟩ = some (.slice A n c)) (by kernel_rfl) ⟨t0, t1⟩ (fun hHeld => ?_)
    have hx := X1.out.below (Below.refl _ _).drew
    obtain ⟨w2, hw2⟩ : ∃ W, w1.drew = W := ⟨_, rfl⟩
    rw [hw2] at hx hHeld ⊢
    have X2 := Lib.hid hx
    clear hx hw2 t0 t1 lz
    refine wpAnyH_take (i := 0) (oi := ?oi0_1) (v := ?v0_1) ?hi0_1 (by kernel_rfl) ?hf0_1 (by kernel_rfl) ?hq0_1 ?hy0_1 hHeld ?rest0_1
    case hi0_1 => (simp only [List.getElem?_toArray, List.getElem?_cons_zero]; try exact rfl)
    case hf0_1 => kernel_rfl
    case hq0_1 => exact fun _ _ _ h => h
    case hy0_1 => (refine Or.inl ⟨rfl, ?_⟩; intro w hSw; (try dsimp only at hSw); go_simp; try with_reducible rfl)
    try simp only [Act.put, List.setIfInBounds_toArray, List.set_cons_zero, List.set_cons_succ]
    refine wpAnyH_take (i := 2) (oi := ?oi2_2) (v := ?v2_2) ?hi2_2 (by kernel_rfl) ?hf2_2 (by kernel_rfl) ?hq2_2 ?hy2_2 hHeld ?rest2_2
    case hi2_2 => (simp only [List.getElem?_toArray, List.getElem?_cons_succ, List.getElem?_cons_zero]; try exact rfl)
    case hf2_2 => kernel_rfl
    case hq2_2 => exact fun _ _ _ h => h
    case hy2_2 => (refine Or.inl ⟨rfl, ?_⟩; intro w hSw; (try dsimp only at hSw); go_simp; try with_reducible rfl)
    try simp only [Act.put, List.setIfInBounds_toArray, List.set_cons_zero, List.set_cons_succ]
    refine wpAnyH_ready (rs := [1]) (by kernel_rfl) (by simp) ?_
    refine AllReadyH.cons (by simp only [List.getElem?_toArray, List.getElem?_cons_succ, List.getElem?_cons_zero]; try exact rfl) (fun K hK => ?_) AllReadyH.nil
    go_simp
    refine (Depth_any _ _ _ 0 _ X2.out.nds).mono ?_
    rintro e w3 ⟨rfl, hb⟩
    have X3 := Lib.hid (X2.out.below hb)
    clear hb
    refine hK.out _ _ X3.out.cells (fun hHeld => ?_)
    clear hK K
    try simp only [Act.put, List.setIfInBounds_toArray, List.set_cons_zero, List.set_cons_succ]
    refine wpAnyH_ready (rs := [3]) (by kernel_rfl) (by simp) ?_
    refine AllReadyH.cons (by simp only [List.getElem?_toArray, List.getElem?_cons_succ, List.getElem?_cons_zero]; try exact rfl) (fun K hK => ?_) AllReadyH.nil
    go_simp
    refine (RDepth_any _ _ _ 0 _ X3.out.nds HL7.out).mono ?_
    rintro e w4 ⟨rfl, hb⟩
    have X4 := Lib.hid (X3.out.below hb)
    clear hb
    refine hK.out _ _ X4.out.cells (fun hHeld => ?_)
    clear hK K
    try simp only [Act.put, List.setIfInBounds_toArray, List.set_cons_zero, List.set_cons_succ]
    refine wpAnyH_take (i := 4) (oi := ?oi4_3) (v := ?v4_3) ?hi4_3 (by kernel_rfl) ?hf4_3 (by kernel_rfl) ?hq4_3 ?hy4_3 hHeld ?rest4_3
    case hi4_3 => (simp only [List.getElem?_toArray, List.getElem?_cons_succ, List.getElem?_cons_zero]; try exact rfl)
    case hf4_3 => kernel_rfl
    case hq4_3 => exact fun _ _ _ h => h
    case hy4_3 => (refine Or.inl ⟨rfl, ?_⟩; intro w hSw; (try dsimp only at hSw); go_simp; try with_reducible rfl)
    try simp only [Act.put, List.setIfInBounds_toArray, List.set_cons_zero, List.set_cons_succ]
    refine wpAnyH_take (i := 5) (oi := ?oi5_4) (v := ?v5_4) ?hi5_4 (by kernel_rfl) ?hf5_4 (by kernel_rfl) ?hq5_4 ?hy5_4 hHeld ?rest5_4
    case hi5_4 => (simp only [List.getElem?_toArray, List.getElem?_cons_succ, List.getElem?_cons_zero]; try exact rfl)
    case hf5_4 => kernel_rfl
    case hq5_4 => exact fun _ _ _ h => h
    case hy5_4 => (refine Or.inl ⟨rfl, ?_⟩; intro w hSw; (try dsimp only at hSw); go_simp; try with_reducible rfl)
    try simp only [Act.put, List.setIfInBounds_toArray, List.set_cons_zero, List.set_cons_succ]
    refine wpAnyH_take (i := 6) (oi := ?oi6_5) (v := ?v6_5) ?hi6_5 (by kernel_rfl) ?hf6_5 (by kernel_rfl) ?hq6_5 ?hy6_5 hHeld ?rest6_5
    case hi6_5 => (simp only [List.getElem?_toArray, List.getElem?_cons_succ, List.getElem?_cons_zero]; try exact rfl)
    case hf6_5 => kernel_rfl
    case hq6_5 => exact fun _ _ _ h => h
    case hy6_5 => (refine Or.inl ⟨rfl, ?_⟩; intro w hSw; (try dsimp only at hSw); go_simp; try with_reducible rfl)
    try simp only [Act.put, List.setIfInBounds_toArray, List.set_cons_zero, List.set_cons_succ]
    refine wpAnyH_take (i := 8) (oi := ?oi8_6) (v := ?v8_6) ?hi8_6 (by kernel_rfl) ?hf8_6 (by kernel_rfl) ?hq8_6 ?hy8_6 hHeld ?rest8_6
    case hi8_6 => (simp only [List.getElem?_toArray, List.getElem?_cons_succ, List.getElem?_cons_zero]; try exact rfl)
    case hf8_6 => kernel_rfl
    case hq8_6 => exact fun _ _ _ h => h
    case hy8_6 => (refine Or.inl ⟨rfl, ?_⟩; intro w hSw; (try dsimp only at hSw); go_simp; try with_reducible rfl)
    try simp only [Act.put, List.setIfInBounds_toArray, List.set_cons_zero, List.set_cons_succ]
    refine wpAnyH_ready (rs := [7]) (by kernel_rfl) (by simp) ?_
    refine AllReadyH.cons (by simp only [List.getElem?_toArray, List.getElem?_cons_succ, List.getElem?_cons_zero]; try exact rfl) (fun K hK => ?_) AllReadyH.nil
    go_simp
    refine (Depths_any _ _ _ 0 _ X4.out.nds).mono ?_
    rintro e w5 ⟨⟨u4, rfl, hu4⟩, hb⟩
    have X5 := Lib.hid (X4.out.below hb)
    have U4 := Lib.hid hu4
    clear hu4
    clear hb
    refine hK.out _ _ X5.out.cells (fun hHeld => ?_)
    clear hK K
    try simp only [Act.put, List.setIfInBounds_toArray, List.set_cons_zero, List.set_cons_succ]
    refine wpAnyH_ready (rs := [9]) (by kernel_rfl) (by simp) ?_
    refine AllReadyH.cons (by simp only [List.getElem?_toArray, List.getElem?_cons_succ, List.getElem?_cons_zero]; try exact rfl) (fun K hK => ?_) AllReadyH.nil
    go_simp
    refine (RDepths_any _ _ _ 0 _ X5.out.nds HL7.out).mono ?_
    rintro e w6 ⟨⟨u5, rfl, hu5⟩, hb⟩
    have X6 := Lib.hid (X5.out.below hb)
    have U5 := Lib.hid hu5
    have U4b := Lib.hid (U4.out.up hb)
    clear hu5
    clear hb
    refine hK.out _ _ X6.out.cells (fun hHeld => ?_)
    clear hK K
    try simp only [Act.put, List.setIfInBounds_toArray, List.set_cons_zero, List.set_cons_succ]
    refine wpAnyH_ready (rs := [10]) (by kernel_rfl) (by simp) ?_
    refine AllReadyH.cons (by simp only [List.getElem?_toArray, List.getElem?_cons_succ, List.getElem?_cons_zero]; try exact rfl) (fun K hK => ?_) AllReadyH.nil
    go_simp
    refine (RSame_any _ _ _ _ _ _ _ _ _ U4b.out U5.out).mono ?_
    rintro e wd ⟨rfl, nq, rfl⟩
    rw [decide_eq_true rfl]
    have hb := below_drewN (Below.refl w6.heap.size w6) nq
    obtain ⟨w7, hw⟩ : ∃ W, w6.drewN nq = W := ⟨_, rfl⟩
    rw [hw] at hb ⊢
    have X7 := Lib.hid (X6.out.below hb)
    clear hb hw
    refine hK.out _ _ X7.out.cells (fun hHeld => ?_)
    clear hK K
    try simp only [Act.put, List.setIfInBounds_toArray, List.set_cons_zero, List.set_cons_succ]
    refine wpAnyH_take (i := 11) (oi := ?oi11_7) (v := ?v11_7) ?hi11_7 (by kernel_rfl) ?hf11_7 (by kernel_rfl) ?hq11_7 ?hy11_7 hHeld ?rest11_7
    case hi11_7 => (simp only [List.getElem?_toArray, List.getElem?_cons_succ, List.getElem?_cons_zero]; try exact rfl)
    case hf11_7 => kernel_rfl
    case hq11_7 => exact fun _ _ _ h => h
    case hy11_7 => (refine Or.inl ⟨rfl, ?_⟩; intro w hSw; (try dsimp only at hSw); go_simp; try with_reducible rfl)
    try simp only [Act.put, List.setIfInBounds_toArray, List.set_cons_zero, List.set_cons_succ]
    refine wpAnyH_take (i := 12) (oi := ?oi12_8) (v := ?v12_8) ?hi12_8 (by kernel_rfl) ?hf12_8 (by kernel_rfl) ?hq12_8 ?hy12_8 hHeld ?rest12_8
    case hi12_8 => (simp only [List.getElem?_toArray, List.getElem?_cons_succ, List.getElem?_cons_zero]; try exact rfl)
    case hf12_8 => kernel_rfl
    case hq12_8 => exact fun _ _ _ h => h
    case hy12_8 => (refine Or.inl ⟨rfl, ?_⟩; intro w hSw; (try dsimp only at hSw); go_simp; try with_reducible rfl)
    try simp only [Act.put, List.setIfInBounds_toArray, List.set_cons_zero, List.set_cons_succ]
    refine wpAnyH_take (i := 13) (oi := ?oi13_9) (v := ?v13_9) ?hi13_9 (by kernel_rfl) ?hf13_9 (by kernel_rfl) ?hq13_9 ?hy13_9 hHeld ?rest13_9
    case hi13_9 => (simp only [List.getElem?_toArray, List.getElem?_cons_succ, List.getElem?_cons_zero]; try exact rfl)
    case hf13_9 => kernel_rfl
    case hq13_9 => exact fun _ _ _ h => h
    case hy13_9 => (refine Or.inl ⟨rfl, ?_⟩; intro w hSw; (try dsimp only at hSw); go_simp; try with_reducible rfl)
    try simp only [Act.put, List.setIfInBounds_toArray, List.set_cons_zero, List.set_cons_succ]
    refine wpAnyH_take (i := 15) (oi := ?oi15_10) (v := ?v15_10) ?hi15_10 (by kernel_rfl) ?hf15_10 (by kernel_rfl) ?hq15_10 ?hy15_10 hHeld ?rest15_10
    case hi15_10 => (simp only [List.getElem?_toArray, List.getElem?_cons_succ, List.getElem?_cons_zero]; try exact rfl)
    case hf15_10 => kernel_rfl
    case hq15_10 => exact fun _ _ _ h => h
    case hy15_10 => (refine Or.inl ⟨rfl, ?_⟩; intro w hSw; (try dsimp only at hSw); go_simp; try with_reducible rfl)
    try simp only [Act.put, List.setIfInBounds_toArray, List.set_cons_zero, List.set_cons_succ]
    refine wpAnyH_ready (rs := [14]) (by kernel_rfl) (by simp) ?_
    refine AllReadyH.cons (by simp only [List.getElem?_toArray, List.getElem?_cons_succ, List.getElem?_cons_zero]; try exact rfl) (fun K hK => ?_) AllReadyH.nil
    go_simp
    refine (Parents_any _ _ _ 0 _ X7.out.nds).mono ?_
    rintro e w8 ⟨⟨u7, rfl, hu7⟩, hb⟩
    have X8 := Lib.hid (X7.out.below hb)
    have U7 := Lib.hid hu7
    clear hu7
    clear hb
    refine hK.out _ _ X8.out.cells (fun hHeld => ?_)
    clear hK K
    try simp only [Act.put, List.setIfInBounds_toArray, List.set_cons_zero, List.set_cons_succ]
    refine wpAnyH_ready (rs := [16]) (by kernel_rfl) (by simp) ?_
    refine AllReadyH.cons (by simp only [List.getElem?_toArray, List.getElem?_cons_succ, List.getElem?_cons_zero]; try exact rfl) (fun K hK => ?_) AllReadyH.nil
    go_simp
    refine (RParents_any _ _ _ 0 _ X8.out.nds HL7.out).mono ?_
    rintro e w9 ⟨⟨u8, rfl, hu8⟩, hb⟩
    have X9 := Lib.hid (X8.out.below hb)
    have U8 := Lib.hid hu8
    have U7b := Lib.hid (U7.out.up hb)
    clear hu8
    clear hb
    refine hK.out _ _ X9.out.cells (fun hHeld => ?_)
    clear hK K
    try simp only [Act.put, List.setIfInBounds_toArray, List.set_cons_zero, List.set_cons_succ]
    refine wpAnyH_ready (rs := [17]) (by kernel_rfl) (by simp) ?_
    refine AllReadyH.cons (by simp only [List.getElem?_toArray, List.getElem?_cons_succ, List.getElem?_cons_zero]; try exact rfl) (fun K hK => ?_) AllReadyH.nil
    go_simp
    refine (RSame_any _ _ _ _ _ _ _ _ _ U7b.out U8.out).mono ?_
    rintro e wd ⟨rfl, nq, rfl⟩
    rw [decide_eq_true rfl]
    have hb := below_drewN (Below.refl w9.heap.size w9) nq
    obtain ⟨w10, hw⟩ : ∃ W, w9.drewN nq = W := ⟨_, rfl⟩
    rw [hw] at hb ⊢
    have X10 := Lib.hid (X9.out.below hb)
    clear hb hw
    refine hK.out _ _ X10.out.cells (fun hHeld => ?_)
    clear hK K
    try simp only [Act.put, List.setIfInBounds_toArray, List.set_cons_zero, List.set_cons_succ]
    refine wpAnyH_take (i := 18) (oi := ?oi18_11) (v := ?v18_11) ?hi18_11 (by kernel_rfl) ?hf18_11 (by kernel_rfl) ?hq18_11 ?hy18_11 hHeld ?rest18_11
    case hi18_11 => (simp only [List.getElem?_toArray, List.getElem?_cons_succ, List.getElem?_cons_zero]; try exact rfl)
    case hf18_11 => kernel_rfl
    case hq18_11 => exact fun _ _ _ h => h
    case hy18_11 => (refine Or.inl ⟨rfl, ?_⟩; intro w hSw; (try dsimp only at hSw); go_simp; try with_reducible rfl)
    try simp only [Act.put, List.setIfInBounds_toArray, List.set_cons_zero, List.set_cons_succ]
    refine wpAnyH_take (i := 19) (oi := ?oi19_12) (v := ?v19_12) ?hi19_12 (by kernel_rfl) ?hf19_12 (by kernel_rfl) ?hq19_12 ?hy19_12 hHeld ?rest19_12
    case hi19_12 => (simp only [List.getElem?_toArray, List.getElem?_cons_succ, List.getElem?_cons_zero]; try exact rfl)
    case hf19_12 => kernel_rfl
    case hq19_12 => exact fun _ _ _ h => h
    case hy19_12 => (refine Or.inl ⟨rfl, ?_⟩; intro w hSw; (try dsimp only at hSw); go_simp; try with_reducible rfl)
    try simp only [Act.put, List.setIfInBounds_toArray, List.set_cons_zero, List.set_cons_succ]
    refine wpAnyH_take (i := 20) (oi := ?oi20_13) (v := ?v20_13) ?hi20_13 (by kernel_rfl) ?hf20_13 (by kernel_rfl) ?hq20_13 ?hy20_13 hHeld ?rest20_13
    case hi20_13 => (simp only [List.getElem?_toArray, List.getElem?_cons_succ, List.getElem?_cons_zero]; try exact rfl)
    case hf20_13 => kernel_rfl
    case hq20_13 => exact fun _ _ _ h => h
    case hy20_13 => (refine Or.inl ⟨rfl, ?_⟩; intro w hSw; (try dsimp only at hSw); go_simp; try with_reducible rfl)
    try simp only [Act.put, List.setIfInBounds_toArray, List.set_cons_zero, List.set_cons_succ]
    refine wpAnyH_take (i := 22) (oi := ?oi22_14) (v := ?v22_14) ?hi22_14 (by kernel_rfl) ?hf22_14 (by kernel_rfl) ?hq22_14 ?hy22_14 hHeld ?rest22_14
    case hi22_14 => (simp only [List.getElem?_toArray, List.getElem?_cons_succ, List.getElem?_cons_zero]; try exact rfl)
    case hf22_14 => kernel_rfl
    case hq22_14 => exact fun _ _ _ h => h
    case hy22_14 => (refine Or.inl ⟨rfl, ?_⟩; intro w hSw; (try dsimp only at hSw); go_simp; try with_reducible rfl)
    try simp only [Act.put, List.setIfInBounds_toArray, List.set_cons_zero, List.set_cons_succ]
    refine wpAnyH_ready (rs := [21]) (by kernel_rfl) (by simp) ?_
    refine AllReadyH.cons (by simp only [List.getElem?_toArray, List.getElem?_cons_succ, List.getElem?_cons_zero]; try exact rfl) (fun K hK => ?_) AllReadyH.nil
    go_simp
    refine (Leaves_any _ _ _ 0 _ X10.out.nds).mono ?_
    rintro e w11 ⟨⟨u10, rfl, hu10⟩, hb⟩
    have X11 := Lib.hid (X10.out.below hb)
    have U10 := Lib.hid hu10
    clear hu10
    clear hb
    refine hK.out _ _ X11.out.cells (fun hHeld => ?_)
    clear hK K
    try simp only [Act.put, List.setIfInBounds_toArray, List.set_cons_zero, List.set_cons_succ]
    refine wpAnyH_ready (rs := [23]) (by kernel_rfl) (by simp) ?_
    refine AllReadyH.cons (by simp only [List.getElem?_toArray, List.getElem?_cons_succ, List.getElem?_cons_zero]; try exact rfl) (fun K hK => ?_) AllReadyH.nil
    go_simp
    refine (RLeaves_any _ _ _ 0 _ X11.out.nds HL7.out).mono ?_
    rintro e w12 ⟨⟨u11, rfl, hu11⟩, hb⟩
    have X12 := Lib.hid (X11.out.below hb)
    have U11 := Lib.hid hu11
    have U10b := Lib.hid (U10.out.up hb)
    clear hu11
    clear hb
    refine hK.out _ _ X12.out.cells (fun hHeld => ?_)
    clear hK K
    try simp only [Act.put, List.setIfInBounds_toArray, List.set_cons_zero, List.set_cons_succ]
    refine wpAnyH_ready (rs := [24]) (by kernel_rfl) (by simp) ?_
    refine AllReadyH.cons (by simp only [List.getElem?_toArray, List.getElem?_cons_succ, List.getElem?_cons_zero]; try exact rfl) (fun K hK => ?_) AllReadyH.nil
    go_simp
    refine (RSame_any _ _ _ _ _ _ _ _ _ U10b.out U11.out).mono ?_
    rintro e wd ⟨rfl, nq, rfl⟩
    rw [decide_eq_true rfl]
    have hb := below_drewN (Below.refl w12.heap.size w12) nq
    obtain ⟨w13, hw⟩ : ∃ W, w12.drewN nq = W := ⟨_, rfl⟩
    rw [hw] at hb ⊢
    have X13 := Lib.hid (X12.out.below hb)
    clear hb hw
    refine hK.out _ _ X13.out.cells (fun hHeld => ?_)
    clear hK K
    try simp only [Act.put, List.setIfInBounds_toArray, List.set_cons_zero, List.set_cons_succ]
    refine wpAnyH_take (i := 25) (oi := ?oi25_15) (v := ?v25_15) ?hi25_15 (by kernel_rfl) ?hf25_15 (by kernel_rfl) ?hq25_15 ?hy25_15 hHeld ?rest25_15
    case hi25_15 => (simp only [List.getElem?_toArray, List.getElem?_cons_succ, List.getElem?_cons_zero]; try exact rfl)
    case hf25_15 => kernel_rfl
    case hq25_15 => exact fun _ _ _ h => h
    case hy25_15 => (refine Or.inl ⟨rfl, ?_⟩; intro w hSw; (try dsimp only at hSw); go_simp; try with_reducible rfl)
    try simp only [Act.put, List.setIfInBounds_toArray, List.set_cons_zero, List.set_cons_succ]
    refine wpAnyH_take (i := 26) (oi := ?oi26_16) (v := ?v26_16) ?hi26_16 (by kernel_rfl) ?hf26_16 (by kernel_rfl) ?hq26_16 ?hy26_16 hHeld ?rest26_16
    case hi26_16 => (simp only [List.getElem?_toArray, List.getElem?_cons_succ, List.getElem?_cons_zero]; try exact rfl)
    case hf26_16 => kernel_rfl
    case hq26_16 => exact fun _ _ _ h => h
    case hy26_16 => (refine Or.inl ⟨rfl, ?_⟩; intro w hSw; (try dsimp only at hSw); go_simp; try with_reducible rfl)
    try simp only [Act.put, List.setIfInBounds_toArray, List.set_cons_zero, List.set_cons_succ]
    refine wpAnyH_ready (rs := [27]) (by kernel_rfl) (by simp) ?_
    refine AllReadyH.cons (by simp only [List.getElem?_toArray, List.getElem?_cons_succ, List.getElem?_cons_zero]; try exact rfl) (fun K hK => ?_) AllReadyH.nil
    go_simp
    refine (lives_any _ (HG.out.below X13.out.low)).mono ?_
    rintro e w14 ⟨rfl, hb⟩
    have X14 := Lib.hid (X13.out.below hb)
    clear hb
    refine hK.out _ _ X14.out.cells (fun hHeld => ?_)
    clear hK K
    try simp only [Act.put, List.setIfInBounds_toArray, List.set_cons_zero, List.set_cons_succ]
    refine wpAnyH_take (i := 28) (oi := ?oi28_17) (v := ?v28_17) ?hi28_17 (by kernel_rfl) ?hf28_17 (by kernel_rfl) ?hq28_17 ?hy28_17 hHeld ?rest28_17
    case hi28_17 => (simp only [List.getElem?_toArray, List.getElem?_cons_succ, List.getElem?_cons_zero]; try exact rfl)
    case hf28_17 => kernel_rfl
    case hq28_17 => exact fun _ _ _ h => h
    case hy28_17 => (refine Or.inl ⟨rfl, ?_⟩; intro w hSw; (try dsimp only at hSw); go_simp; try with_reducible rfl)
    try simp only [Act.put, List.setIfInBounds_toArray, List.set_cons_zero, List.set_cons_succ]
    refine wpAnyH_take (i := 29) (oi := ?oi29_18) (v := ?v29_18) ?hi29_18 (by kernel_rfl) ?hf29_18 (by kernel_rfl) ?hq29_18 ?hy29_18 hHeld ?rest29_18
    case hi29_18 => (simp only [List.getElem?_toArray, List.getElem?_cons_succ, List.getElem?_cons_zero]; try exact rfl)
    case hf29_18 => kernel_rfl
    case hq29_18 => exact fun _ _ _ h => h
    case hy29_18 => (refine Or.inl ⟨rfl, ?_⟩; intro w hSw; (try dsimp only at hSw); go_simp; try with_reducible rfl)
    try simp only [Act.put, List.setIfInBounds_toArray, List.set_cons_zero, List.set_cons_succ]
    refine wpAnyH_done (by kernel_rfl) ?_ _
    go_wp2_with fail
    go_ret
    exact ⟨rfl, X14.out.low⟩
end Go.Proofs.YtmmgfelifmdnbaaDoor.TelW
