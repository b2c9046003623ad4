/- The law ReportDevs, walked, over what its 'lives' answers (printed by mkrpd.py). -/
import Derived.Test.YtodiipkedhfncaaGreatDoorRdvW
namespace Go.Proofs.YtodiipkedhfncaaGreatDoor.RpdW
set_option linter.unusedVariables false
set_option linter.unusedSimpArgs false
open Go.RowKit Base BigM BigW BigZ WideM RptM RptO RptC WidX SeqM HzW RotW DevW RdvW

/-- what lives answers -/
def Lives : Prop := ∀ w : World, Calls Tryz.prog 9 #[] w fun e w' => e = .returned (.bool true) ∧ Below w.heap.size w w'
theorem ord_le {x y : Int} (h : x ≤ y) : decide (ord x y ≤ 0) = true := by unfold ord; simp; split <;> (try split) <;> omega
theorem ord_gt' {x y : Int} (h : y < x) : decide (0 < ord x y) = true := by unfold ord; simp; split <;> (try split) <;> omega
set_option maxHeartbeats 4000000 in
theorem ReportDevs_any (HLV : Lives) (c : Col) (n : Int) (hs : Spr c.sp) (hn : -9223372036854775808 ≤ n ∧ n ≤ 9223372036854775807) (w : World) :
    Calls Tryz.prog 5 #[CV c, .int .i64 n] w fun e w' => e = .returned (.bool true) ∧ Below w.heap.size w w' := by
  have HDV := Lib.hid (fun W => Dev_any c n hs hn W)
  have HRV := Lib.hid (fun W => RDev_any c n hs hn W)
  have HS := Lib.hid hs
  have HSAY := Lib.hid (dev_says (n := n) hs.1 hs.2)
  obtain ⟨l, m, dd, s, a⟩ := c
  obtain ⟨hi, eh⟩ : ∃ hi, hiW a = hi := ⟨_, rfl⟩
  obtain ⟨lo, el⟩ : ∃ lo, loW a = lo := ⟨_, rfl⟩
  have HW := Lib.hid (show WV a = .agg #[.int .u64 hi, .int .u64 lo] by unfold WV; rw [eh, el])
  have HC := Lib.hid (show CV ⟨l, m, dd, s, a⟩ = .agg #[.int .i64 l, .int .i64 m, .int .i64 dd, .int .i64 s, .int .u64 hi, .int .u64 lo] by unfold CV colC; rw [eh, el])
  rw [HC.out] at HDV HRV ⊢
  clear eh el hs
  have hSAY := HSAY.out
  change devE a n = 0 → _ at hSAY
  obtain ⟨W, eW⟩ : ∃ W, w.alloc (.cells #[.int .i64 l, .int .i64 m, .int .i64 dd, .int .i64 s, .int .u64 hi, .int .u64 lo] 35) = W := ⟨_, rfl⟩
  have HB := Lib.hid (show Below w.heap.size w W by rw [← eW]; exact below_alloc1 _ _)
  have HCS := Lib.hid (show W.cell? ⟨w.heap.size, 0, none⟩ = some (.int .i64 l) ∧ W.cell? ⟨w.heap.size, 1, none⟩ = some (.int .i64 m) ∧ W.cell? ⟨w.heap.size, 2, none⟩ = some (.int .i64 dd) ∧ W.cell? ⟨w.heap.size, 3, none⟩ = some (.int .i64 s) ∧ W.cell? ⟨w.heap.size, 4, none⟩ = some (.int .u64 hi) ∧ W.cell? ⟨w.heap.size, 5, none⟩ = some (.int .u64 lo) by subst eW; refine ⟨?_, ?_, ?_, ?_, ?_, ?_⟩ <;> go_simp)
  obtain ⟨c0, c1, c2, c3, c4, c5⟩ := HCS.out
  go_enter Tryz.func5, Tryz.ntmps5
  go_wp2_with fail
  refine (HDV.out _).mono ?_
  rintro e w1 ⟨rfl, hb1⟩
  have HB1 := Lib.hid hb1
  obtain ⟨d0, d1, d2, d3, d4, d5⟩ := HCS.out
  replace d0 := keepA hb1 d0
  replace d1 := keepA hb1 d1
  replace d2 := keepA hb1 d2
  replace d3 := keepA hb1 d3
  replace d4 := keepA hb1 d4
  replace d5 := keepA hb1 d5
  clear hb1 c0 c1 c2 c3 c4 c5
  obtain ⟨d, ed⟩ : ∃ d, devV a n = d := ⟨_, rfl⟩
  obtain ⟨r, er⟩ : ∃ r, devE a n = r := ⟨_, rfl⟩
  change Hid (∀ W : World, Calls Tryz.prog 17 _ W fun e w' => e = .returned (.tuple #[.int .i64 (devV a n), .int .i64 (devE a n)]) ∧ _) at HRV
  rw [ed, er] at hSAY HRV
  simp only [ed, er]
  go_wp2_with fail
  refine (HRV.out _).mono ?_
  rintro e w2 ⟨rfl, hb2⟩
  have HB2 := Lib.hid hb2
  replace d4 := keepA hb2 d4
  replace d5 := keepA hb2 d5
  clear d0 d1 d2 d3 hb2
  by_cases hr : r = 0
  · subst hr
    have hsay := hSAY rfl
    have HSY := Lib.hid hsay
    obtain ⟨hn1, hd1, -, -⟩ := hsay
    clear hSAY
    have h1 : IntKind.u64.wrap d = d := IntWalk.u64_in _ (by omega)
    have h2 : IntKind.u64.wrap n = n := IntWalk.u64_in _ (by omega)
    have HOD := Lib.hid (fun W' => Of_any d W' (by omega) (by omega))
    have HON := Lib.hid (fun W' => Of_any n W' (by omega) (by omega))
    go_wp2_with fail
    refine (HOD.out _).mono ?_
    rintro e w3 ⟨⟨v3, rfl, hv3⟩, hb3⟩
    go_wp2_with fail
    refine (HON.out _).mono ?_
    rintro e w4 ⟨⟨v4, rfl, hv4⟩, hb4⟩
    go_wp2_with fail
    refine (Times_any _ _ _ _ _ _ _ (hv3.up hb4) (hv4.more (Nat.zero_le _) (Nat.le_refl _) (Nat.le_refl _)) (by omega) (by omega)).mono ?_
    rintro e w5 ⟨⟨v5, rfl, hv5⟩, hb5⟩
    go_wp2_with fail
    refine (HON.out _).mono ?_
    rintro e w6 ⟨⟨v6, rfl, hv6⟩, hb6⟩
    go_wp2_with fail
    refine (Plus_any _ _ _ _ _ _ _ (hv5.up hb6) (hv6.more (Nat.zero_le _) (Nat.le_refl _) (Nat.le_refl _)) (by omega) (by omega)).mono ?_
    rintro e w7 ⟨⟨v7, rfl, hv7⟩, hb7⟩
    replace d4 := keepA hb7 (keepA hb6 (keepA hb5 (keepA hb4 (keepA hb3 d4))))
    replace d5 := keepA hb7 (keepA hb6 (keepA hb5 (keepA hb4 (keepA hb3 d5))))
    have D4 := Lib.hid d4
    have D5 := Lib.hid d5
    have HB7 := Lib.hid (bt hb7 (bt hb6 (bt hb5 (bt hb4 (bt hb3 (bt HB2.out (bt HB1.out HB.out)))))))
    have HLO := Lib.hid ((hv5.up hb6).up hb7)
    have HHI := Lib.hid (hv7.more (Nat.zero_le _) (Nat.le_refl _) (Nat.le_refl _))
    clear hv3 hv4 hv5 hv6 hv7 hb3 hb4 hb5 hb6 hb7 d4 d5
    have HL1 := Lib.hid (ord_le HSY.out.2.2.1)
    have HL2 := Lib.hid (ord_gt' HSY.out.2.2.2)
    have hd9 : decide (0 ≤ d) = true := decide_eq_true hd1.1
    go_wp2_with fail
    refine regionZ 25 (fun w' => w'.cell? ⟨w.heap.size, 4, none⟩ = some (.int .u64 hi) ∧ w'.cell? ⟨w.heap.size, 5, none⟩ = some (.int .u64 lo)) (by kernel_rfl) (⟨D4.out, D5.out⟩) (fun hH => ?_)
    refine takeZ 0 (v := ?_) (gi rfl) (by kernel_rfl) (fun _ _ _ h => h) hH (.inl ⟨rfl, fun w hW => ?_⟩) ?_
    rotate_left
    · (go_simp; try with_reducible rfl)
    try simp only [Act.put, List.setIfInBounds_toArray, List.set_cons_zero, List.set_cons_succ]
    refine takeZ 1 (v := ?_) (gi rfl) (by kernel_rfl) (fun _ _ _ h => h) hH (.inl ⟨rfl, fun w hW => ?_⟩) ?_
    rotate_left
    · (go_simp; try with_reducible rfl)
    try simp only [Act.put, List.setIfInBounds_toArray, List.set_cons_zero, List.set_cons_succ]
    try simp only [hd9]
    refine takeZ 2 (v := ?_) (gi rfl) (by kernel_rfl) (fun _ _ _ h => h) hH (.inl ⟨rfl, fun w hW => ?_⟩) ?_
    rotate_left
    · (go_simp; try with_reducible rfl)
    try simp only [Act.put, List.setIfInBounds_toArray, List.set_cons_zero, List.set_cons_succ]
    refine takeZ 3 (v := ?_) (gi rfl) (by kernel_rfl) (fun _ _ _ h => h) hH (.inl ⟨rfl, fun w hW => ?_⟩) ?_
    rotate_left
    · (go_simp; try with_reducible rfl)
    try simp only [Act.put, List.setIfInBounds_toArray, List.set_cons_zero, List.set_cons_succ]
    refine takeZ 4 (v := ?_) (gi rfl) (by kernel_rfl) (fun _ _ _ h => h) hH (.inl ⟨rfl, fun w hW => ?_⟩) ?_
    rotate_left
    · (go_simp; try with_reducible rfl)
    try simp only [Act.put, List.setIfInBounds_toArray, List.set_cons_zero, List.set_cons_succ]
    refine takeZ 6 (v := ?_) (gi rfl) (by kernel_rfl) (fun _ _ _ h => h) hH (.inl ⟨rfl, fun w hW => ?_⟩) ?_
    rotate_left
    · (go_simp; try with_reducible rfl)
    try simp only [Act.put, List.setIfInBounds_toArray, List.set_cons_zero, List.set_cons_succ]
    refine takeZ 7 (v := ?_) (gi rfl) (by kernel_rfl) (fun _ _ _ h => h) hH (.inl ⟨rfl, fun w hW => ?_⟩) ?_
    rotate_left
    · (obtain ⟨hW1, hW2⟩ := hW; go_simp; try with_reducible rfl)
    try simp only [Act.put, List.setIfInBounds_toArray, List.set_cons_zero, List.set_cons_succ]
    refine oneZ 5 (by kernel_rfl) (gi rfl) (fun K hK => ?_)
    try simp only [Act.put, List.setIfInBounds_toArray, List.set_cons_zero, List.set_cons_succ]
    go_simp
    refine (Times_any _ _ _ _ _ _ _ (HLO.out.up (Below.refl _ w7).drew) (HLO.out.up (Below.refl _ w7).drew) (by omega) (by omega)).mono ?_
    rintro e x1 ⟨⟨u1, rfl, hu1⟩, hc1⟩
    have HX1 := Lib.hid hc1
    have HU1 := Lib.hid hu1
    clear hc1 hu1
    refine hK.out _ _ (fun _ => ⟨(keepA HX1.out D4.out), (keepA HX1.out D5.out)⟩) (fun hH => ?_)
    replace hH := hH (by decide)
    clear hK K
    try simp only [Act.put, List.setIfInBounds_toArray, List.set_cons_zero, List.set_cons_succ]
    rw [← HW.out]
    refine oneZ 8 (by kernel_rfl) (gi rfl) (fun K hK => ?_)
    try simp only [Act.put, List.setIfInBounds_toArray, List.set_cons_zero, List.set_cons_succ]
    go_simp
    refine (RBig_any a HS.out _).mono ?_
    rintro e x2 ⟨⟨u2, rfl, hu2⟩, hc2⟩
    have HX2 := Lib.hid hc2
    have HU2 := Lib.hid hu2
    clear hc2 hu2
    refine hK.out _ _ (fun _ => ⟨(keepA HX2.out (keepA HX1.out D4.out)), (keepA HX2.out (keepA HX1.out D5.out))⟩) (fun hH => ?_)
    replace hH := hH (by decide)
    clear hK K
    try simp only [Act.put, List.setIfInBounds_toArray, List.set_cons_zero, List.set_cons_succ]
    refine oneZ 9 (by kernel_rfl) (gi rfl) (fun K hK => ?_)
    try simp only [Act.put, List.setIfInBounds_toArray, List.set_cons_zero, List.set_cons_succ]
    go_simp
    refine (Order_any _ _ _ _ _ _ _ (HU1.out.up HX2.out |>.more (Nat.zero_le _) (Nat.le_refl _) (Nat.le_refl _)) (HU2.out.more (Nat.zero_le _) (Nat.le_refl _) (Nat.le_refl _)) (by omega) (by omega)).mono ?_
    rintro e x3 ⟨rfl, q3, rfl⟩
    refine hK.out _ _ (fun _ => ⟨(keepA HX2.out (keepA HX1.out D4.out)), (keepA HX2.out (keepA HX1.out D5.out))⟩) (fun hH => ?_)
    replace hH := hH (by decide)
    clear hK K
    try simp only [Act.put, List.setIfInBounds_toArray, List.set_cons_zero, List.set_cons_succ]
    refine takeZ 10 (v := ?_) (gi rfl) (by kernel_rfl) (fun _ _ _ h => h) hH (.inl ⟨rfl, fun w hW => ?_⟩) ?_
    rotate_left
    · (go_simp; try with_reducible rfl)
    try simp only [Act.put, List.setIfInBounds_toArray, List.set_cons_zero, List.set_cons_succ]
    try simp only [HL1.out]
    refine takeZ 11 (v := ?_) (gi rfl) (by kernel_rfl) (fun _ _ _ h => h) hH (.inl ⟨rfl, fun w hW => ?_⟩) ?_
    rotate_left
    · (go_simp; try with_reducible rfl)
    try simp only [Act.put, List.setIfInBounds_toArray, List.set_cons_zero, List.set_cons_succ]
    refine takeZ 12 (v := ?_) (gi rfl) (by kernel_rfl) (fun _ _ _ h => h) hH (.inl ⟨rfl, fun w hW => ?_⟩) ?_
    rotate_left
    · (go_simp; try with_reducible rfl)
    try simp only [Act.put, List.setIfInBounds_toArray, List.set_cons_zero, List.set_cons_succ]
    refine takeZ 13 (v := ?_) (gi rfl) (by kernel_rfl) (fun _ _ _ h => h) hH (.inl ⟨rfl, fun w hW => ?_⟩) ?_
    rotate_left
    · (go_simp; try with_reducible rfl)
    try simp only [Act.put, List.setIfInBounds_toArray, List.set_cons_zero, List.set_cons_succ]
    refine takeZ 14 (v := ?_) (gi rfl) (by kernel_rfl) (fun _ _ _ h => h) hH (.inl ⟨rfl, fun w hW => ?_⟩) ?_
    rotate_left
    · (go_simp; try with_reducible rfl)
    try simp only [Act.put, List.setIfInBounds_toArray, List.set_cons_zero, List.set_cons_succ]
    refine takeZ 16 (v := ?_) (gi rfl) (by kernel_rfl) (fun _ _ _ h => h) hH (.inl ⟨rfl, fun w hW => ?_⟩) ?_
    rotate_left
    · (go_simp; try with_reducible rfl)
    try simp only [Act.put, List.setIfInBounds_toArray, List.set_cons_zero, List.set_cons_succ]
    refine takeZ 17 (v := ?_) (gi rfl) (by kernel_rfl) (fun _ _ _ h => h) hH (.inl ⟨rfl, fun w hW => ?_⟩) ?_
    rotate_left
    · (obtain ⟨hW1, hW2⟩ := hW; go_simp; try with_reducible rfl)
    try simp only [Act.put, List.setIfInBounds_toArray, List.set_cons_zero, List.set_cons_succ]
    have HHX := Lib.hid (((HHI.out.up (Below.refl _ w7).drew).up HX1.out).up HX2.out |>.up (below_drewN (Below.refl _ x2) q3))
    refine oneZ 15 (by kernel_rfl) (gi rfl) (fun K hK => ?_)
    try simp only [Act.put, List.setIfInBounds_toArray, List.set_cons_zero, List.set_cons_succ]
    go_simp
    refine (Times_any _ _ _ _ _ _ _ (HHX.out) (HHX.out) (by omega) (by omega)).mono ?_
    rintro e x4 ⟨⟨u4, rfl, hu4⟩, hc4⟩
    have HX4 := Lib.hid hc4
    have HU4 := Lib.hid hu4
    clear hc4 hu4
    refine hK.out _ _ (fun _ => ⟨(keepA HX4.out (keepA HX2.out (keepA HX1.out D4.out))), (keepA HX4.out (keepA HX2.out (keepA HX1.out D5.out)))⟩) (fun hH => ?_)
    replace hH := hH (by decide)
    clear hK K
    try simp only [Act.put, List.setIfInBounds_toArray, List.set_cons_zero, List.set_cons_succ]
    rw [← HW.out]
    refine oneZ 18 (by kernel_rfl) (gi rfl) (fun K hK => ?_)
    try simp only [Act.put, List.setIfInBounds_toArray, List.set_cons_zero, List.set_cons_succ]
    go_simp
    refine (RBig_any a HS.out _).mono ?_
    rintro e x5 ⟨⟨u5, rfl, hu5⟩, hc5⟩
    have HX5 := Lib.hid hc5
    have HU5 := Lib.hid hu5
    clear hc5 hu5
    refine hK.out _ _ (fun _ => ⟨(keepA HX5.out (keepA HX4.out (keepA HX2.out (keepA HX1.out D4.out)))), (keepA HX5.out (keepA HX4.out (keepA HX2.out (keepA HX1.out D5.out))))⟩) (fun hH => ?_)
    replace hH := hH (by decide)
    clear hK K
    try simp only [Act.put, List.setIfInBounds_toArray, List.set_cons_zero, List.set_cons_succ]
    refine oneZ 19 (by kernel_rfl) (gi rfl) (fun K hK => ?_)
    try simp only [Act.put, List.setIfInBounds_toArray, List.set_cons_zero, List.set_cons_succ]
    go_simp
    refine (Order_any _ _ _ _ _ _ _ (HU4.out.up HX5.out |>.more (Nat.zero_le _) (Nat.le_refl _) (Nat.le_refl _)) (HU5.out.more (Nat.zero_le _) (Nat.le_refl _) (Nat.le_refl _)) (by omega) (by omega)).mono ?_
    rintro e x6 ⟨rfl, q6, rfl⟩
    refine hK.out _ _ (fun _ => ⟨(keepA HX5.out (keepA HX4.out (keepA HX2.out (keepA HX1.out D4.out)))), (keepA HX5.out (keepA HX4.out (keepA HX2.out (keepA HX1.out D5.out))))⟩) (fun hH => ?_)
    replace hH := hH (by decide)
    clear hK K
    try simp only [Act.put, List.setIfInBounds_toArray, List.set_cons_zero, List.set_cons_succ]
    refine takeZ 20 (v := ?_) (gi rfl) (by kernel_rfl) (fun _ _ _ h => h) hH (.inl ⟨rfl, fun w hW => ?_⟩) ?_
    rotate_left
    · (go_simp; try with_reducible rfl)
    try simp only [Act.put, List.setIfInBounds_toArray, List.set_cons_zero, List.set_cons_succ]
    try simp only [HL2.out]
    refine takeZ 21 (v := ?_) (gi rfl) (by kernel_rfl) (fun _ _ _ h => h) hH (.inl ⟨rfl, fun w hW => ?_⟩) ?_
    rotate_left
    · (go_simp; try with_reducible rfl)
    try simp only [Act.put, List.setIfInBounds_toArray, List.set_cons_zero, List.set_cons_succ]
    refine takeZ 22 (v := ?_) (gi rfl) (by kernel_rfl) (fun _ _ _ h => h) hH (.inl ⟨rfl, fun w hW => ?_⟩) ?_
    rotate_left
    · (go_simp; try with_reducible rfl)
    try simp only [Act.put, List.setIfInBounds_toArray, List.set_cons_zero, List.set_cons_succ]
    refine oneZ 23 (by kernel_rfl) (gi rfl) (fun K hK => ?_)
    try simp only [Act.put, List.setIfInBounds_toArray, List.set_cons_zero, List.set_cons_succ]
    go_simp
    refine (HLV _).mono ?_
    rintro e x7 ⟨rfl, hc7⟩
    have HX7 := Lib.hid hc7
    clear hc7
    refine hK.out _ _ (fun _ => ⟨(keepA HX7.out (keepA HX5.out (keepA HX4.out (keepA HX2.out (keepA HX1.out D4.out))))), (keepA HX7.out (keepA HX5.out (keepA HX4.out (keepA HX2.out (keepA HX1.out D5.out)))))⟩) (fun hH => ?_)
    replace hH := hH (by decide)
    clear hK K
    try simp only [Act.put, List.setIfInBounds_toArray, List.set_cons_zero, List.set_cons_succ]
    refine takeZ 24 (v := ?_) (gi rfl) (by kernel_rfl) (fun _ _ _ h => h) hH (.inl ⟨rfl, fun w hW => ?_⟩) ?_
    rotate_left
    · (go_simp; try with_reducible rfl)
    try simp only [Act.put, List.setIfInBounds_toArray, List.set_cons_zero, List.set_cons_succ]
    refine yieldZ 25 (v := ?_) (by kernel_rfl) (gi rfl) hH (.inl ⟨rfl, fun w hW => ?_⟩) ?_
    rotate_left
    · (go_simp; try with_reducible rfl)
    try simp only [Act.put, List.setIfInBounds_toArray, List.set_cons_zero, List.set_cons_succ]
    refine doneZ (by kernel_rfl) ?_ _
    clear hH
    go_wp2
    go_ret
    exact ⟨rfl, bt HX7.out (below_drewN (bt HX5.out (bt HX4.out (below_drewN (bt HX2.out (bt HX1.out HB7.out.drew)) q3))) q6)⟩
  · have HBZ := Lib.hid (bt HB2.out (bt HB1.out HB.out))
    clear hSAY
    have hrb : (r == 0) = false := by simpa using hr
    go_wp2_with fail
    refine (HLV _).mono ?_
    rintro e w3 ⟨rfl, hb3⟩
    go_wp2
    go_ret
    exact ⟨rfl, bt hb3 HBZ.out⟩
end Go.Proofs.YtodiipkedhfncaaGreatDoor.RpdW
