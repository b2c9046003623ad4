/- The law ReportTells, walked (printed by mkrtl.py). -/
import Derived.Test.YtcaeihfgdlffkaaGreatRRRRDoorPk29
import Derived.Test.YtcaeihfgdlffkaaGreatRRRRDoorPk31
import Derived.Test.YtcaeihfgdlffkaaGreatRRRRDoorPk33
import Derived.Test.YtcaeihfgdlffkaaGreatRRRRDoorPk34
import Derived.Test.YtcaeihfgdlffkaaGreatRRRRDoorPk13
import Derived.Test.YtcaeihfgdlffkaaGreatRRRRDoorPk12
import Derived.Test.YtcaeihfgdlffkaaGreatRRRRDoorPk10
import Derived.Lib.SmallJoins
import Derived.Deep.Slices
import Derived.ChangeSame
import Derived.ChangeArms
import Derived.Test.YtcaeihfgdlffkaaGreatRRRRDoorPk15
import Derived.Test.YtcaeihfgdlffkaaGreatRRRRDoorPk00
import Derived.WideKeyArgs
namespace Go.Proofs.YtcaeihfgdlffkaaGreatRRRRDoor.RtlW
set_option linter.unusedVariables false
set_option linter.unusedSimpArgs false
open Go.RowKit Base SeqM CfM StM StV RtxM OfsW RofW TxrW RtwW SsrW MucW HyW LaidR
open RriS (Small loadG)
open LneW (G_below)
open LvsW (lives_any)
theorem gi {L : List Oper} {i : Nat} {o : Oper} (h : L[i]? = some o) : L.toArray[i]? = some o := by simpa using h
theorem RpIn.form {w : World} {r : Rp} {u1 u2 : Value} (h : RpIn w r u1 u2) : (∃ a n c, u1 = .slice a n c) ∧ ∃ a n c, u2 = .slice a n c := by
  obtain ⟨⟨A1, k1, rfl, _⟩, A2, k2, rfl, _⟩ := h
  exact ⟨⟨_, _, _, rfl⟩, _, _, _, rfl⟩
theorem RpIn.up {w w' : World} {r : Rp} {u1 u2 : Value} (h : RpIn w r u1 u2) (hb : Below w.heap.size w w') : RpIn w' r u1 u2 := ⟨h.1.up hb, h.2.up hb⟩
theorem RpIn.forms {w : World} {r : Rp} {u1 u2 : Value} (h : RpIn w r u1 u2) : ∃ a c b d, u1 = .slice a r.cols.length c ∧ u2 = .slice b r.levs.length d ∧ (r.cols.length ≤ c ∧ c ≤ 9223372036854775807) ∧ r.levs.length ≤ d ∧ d ≤ 9223372036854775807 := by
  obtain ⟨⟨A1, k1, rfl, h1, h2, _⟩, A2, k2, rfl, h3, h4, _⟩ := h
  unfold maxLen at h2 h4
  exact ⟨_, _, _, _, rfl, rfl, ⟨h1, by omega⟩, h3, by omega⟩
set_option maxHeartbeats 8000000 in
set_option maxRecDepth 100000 in
theorem ReportTells_any (s : St) (wv fv av : Value) (w : World) (h : StIn w w.heap.size s wv fv av) (hi : StI s) (hG : G w) :
    Calls Tryz.prog 3 #[.agg (stC s wv fv av).toArray] w fun e w' => e = .returned (.bool true) ∧ Below w.heap.size w w' := by
  have HMU := Lib.hid (fun W (hw : Below w.heap.size w W) => MuchS_any s wv fv av W (h.up hw))
  have HOF := Lib.hid (fun W (hw : Below w.heap.size w W) => Of_any s wv fv av W (h.up hw) hi)
  have HRO := Lib.hid (fun (hm : muchSt s = false) W (hw : Below w.heap.size w W) => ROf_any s wv fv av W (h.up hw) hi (fun g hg => Nat.le_trans ((much_no hm).2.1 g hg) (by decide)) (Nat.le_trans (much_no hm).1 (by decide)))
  have HSA := Lib.hid (fun u1 u2 v1 v2 W ha hb => SameR_any (repL s) u1 u2 v1 v2 W ha hb)
  have HTX := Lib.hid (fun (he : repE s = 0) u1 u2 W (hg : G W) ha => Text_any (repL s) (by
    cases hb : rightB s with
    | true => exact rep_ok s hb
    | false => have := (rep_no hb).2; rw [this] at he; cases he) u1 u2 W hg ha)
  have HRX := Lib.hid (fun (he : repE s = 0) u1 u2 W ha => RText_any (repL s) (by
    cases hb : rightB s with
    | true => exact rep_ok s hb
    | false => have := (rep_no hb).2; rw [this] at he; cases he) u1 u2 W ha)
  have HEE := Lib.hid (show repE s = 0 ∨ repE s = 280 by
    cases hb : rightB s with
    | true => exact .inl (rep_yes hb).2
    | false => exact .inr (rep_no hb).2)
  have HG := Lib.hid hG
  obtain ⟨a1, k1, e1, hk1, hk1b, _⟩ := h.1.form
  obtain ⟨a2, k2, e2, _⟩ := h.2.1.form
  obtain ⟨a3, k3, e3, _⟩ := h.2.2
  generalize s.win.length = n at *
  generalize s.forest.length = n2 at *
  generalize s.alerts.length = n3 at *
  subst e1 e2 e3
  unfold OsPost at HOF HRO
  generalize repL s = RP at *
  generalize repE s = RE at *
  generalize muchSt s = MU at *
  obtain ⟨⟨c0, c1, c2, c3, c4, c5, c6, c7, c8, c9, c10⟩, count, last, seq, win, forest, alerts⟩ := s
  unfold stC CfM.cfC at HMU HOF HRO ⊢
  dsimp only [List.cons_append, List.nil_append] at HMU HOF HRO ⊢
  clear h hi hG
  obtain ⟨W, eW⟩ : ∃ W, w.alloc (.cells #[.int .i64 c0, .int .i64 c1, .int .i64 c2, .int .i64 c3, .int .i64 c4, .int .i64 c5, .int .i64 c6, .int .i64 c7, .int .i64 c8, .int .i64 c9, .int .i64 c10, .int .i64 count, .int .i64 last, .int .i64 seq, .slice a1 n k1, .slice a2 n2 k2, .slice a3 n3 k3] 28) = W := ⟨_, rfl⟩
  have HB := Lib.hid (show Below w.heap.size w W by rw [← eW]; exact below_a1 _ _)
  have HSB := Lib.hid (show ∀ W', Below W.heap.size W W' → W'.heap[w.heap.size]? = some (.cells #[.int .i64 c0, .int .i64 c1, .int .i64 c2, .int .i64 c3, .int .i64 c4, .int .i64 c5, .int .i64 c6, .int .i64 c7, .int .i64 c8, .int .i64 c9, .int .i64 c10, .int .i64 count, .int .i64 last, .int .i64 seq, .slice a1 n k1, .slice a2 n2 k2, .slice a3 n3 k3] 28 (0, 0)) by
    intro W' hb
    rw [hb.block _ (by rw [← eW]; simp), ← eW]
    exact heap_alloc_new w _)
  have HC14 := Lib.hid (show ∀ W', Below W.heap.size W W' → W'.cell? ⟨w.heap.size, 14, none⟩ = some (.slice a1 n k1) from fun W' hb => by rw [cell_of_row _ _ _ _ _ _ (HSB.out W' hb)]; rfl)
  go_enter Tryz.func3, Tryz.ntmps3
  go_wp2_with (refine (id ?_ : wpList _ _ _ (⟨some 7, .load _ _, _, _, _, _⟩ :: _) _ _); refine loadG (by rfl) (.tmp 1) rfl w.heap.size _ rfl (by rfl) (HSB.out _ (Below.refl _ W)) ?_)
  refine (HMU.out _ HB.out).mono ?_
  rintro e w1 ⟨rfl, hb1⟩
  have HB1 := Lib.hid hb1
  have t14 := HC14.out w1 hb1
  clear hb1
  cases MU
  rotate_left
  · go_wp2_with fail
    refine (lives_any w1).mono ?_
    rintro e v9 ⟨rfl, hb9⟩
    have HB9 := Lib.hid (bt hb9 HB1.out)
    clear hb9
    go_wp2_with fail
    go_ret
    exact ⟨rfl, bt HB9.out HB.out⟩
  by_cases h40 : 40 < n
  · have h40b : (40 : Int) < (n : Int) := by omega
    go_wp2_with fail
    refine (lives_any w1).mono ?_
    rintro e v9 ⟨rfl, hb9⟩
    have HB9 := Lib.hid (bt hb9 HB1.out)
    clear hb9
    go_wp2_with fail
    go_ret
    exact ⟨rfl, bt HB9.out HB.out⟩
  have h40b : ¬ (40 : Int) < (n : Int) := by omega
  go_wp2_with (refine (id ?_ : wpList _ _ _ (⟨some 17, .load _ _, _, _, _, _⟩ :: _) _ _); refine loadG (by rfl) (.tmp 1) rfl w.heap.size _ rfl (by rfl) (HSB.out _ HB1.out) ?_)
  refine (HOF.out _ (bt HB1.out HB.out)).mono ?_
  rintro e w2 ⟨⟨u1, u2, rfl, hu⟩, hb2⟩
  have HU := Lib.hid hu
  have HB2 := Lib.hid (bt hb2 HB1.out)
  obtain ⟨A1, q1, A2, q2, rfl, rfl, ⟨hq1, hq1b⟩, hq2, hq2b⟩ := RpIn.forms hu
  obtain ⟨cl, hcl⟩ : ∃ cl, RP.cols.length = cl := ⟨_, rfl⟩
  obtain ⟨ll, hll⟩ : ∃ ll, RP.levs.length = ll := ⟨_, rfl⟩
  obtain ⟨ev, hev⟩ : ∃ ev, RP.ev = ev := ⟨_, rfl⟩
  have HLN := Lib.hid (And.intro hcl (And.intro hll hev))
  rw [hcl, hll] at HU
  rw [hcl] at hq1
  rw [hll] at hq2
  rw [hcl, hll, hev]
  rw [hev] at HRO HSA HTX HRX
  clear hb2 hu t14 hcl hll hev
  obtain ⟨X, eX⟩ : ∃ X, w2.alloc (.cells #[.int .i64 ev, .slice A1 cl q1, .slice A2 ll q2] 34) = X := ⟨_, rfl⟩
  have HBX := Lib.hid (show Below w2.heap.size w2 X by rw [← eX]; exact below_a1 _ _)
  have HX := Lib.hid (show ∀ W', Below X.heap.size X W' → (W'.cell? ⟨w2.heap.size, 0, none⟩ = some (.int .i64 ev) ∧ W'.cell? ⟨w2.heap.size, 1, none⟩ = some (.slice A1 cl q1) ∧ W'.cell? ⟨w2.heap.size, 2, none⟩ = some (.slice A2 ll q2)) by
    intro W' hb
    subst eX
    refine ⟨keepA hb ?_, keepA hb ?_, keepA hb ?_⟩ <;> go_simp)
  have HBXW := Lib.hid (bt HBX.out HB2.out)
  go_wp2_with (refine (id ?_ : wpList _ _ _ (⟨some 22, .load _ _, _, _, _, _⟩ :: _) _ _); refine loadG (by rfl) (.tmp 1) rfl w.heap.size _ rfl (by rfl) (HSB.out _ HBXW.out) ?_)
  refine (HRO.out (by first | rfl | trivial) _ (bt HBXW.out HB.out)).mono ?_
  rintro e w3 ⟨⟨v1, v2, rfl, hv⟩, hb3⟩
  have HV := Lib.hid hv
  have HU3 := Lib.hid (RpIn.up (RpIn.up HU.out HBX.out) hb3)
  have HB3 := Lib.hid (bt hb3 HBXW.out)
  have HX3 := Lib.hid hb3
  obtain ⟨B1, r1, B2, r2, rfl, rfl, ⟨hr1, hr1b⟩, hr2, hr2b⟩ := RpIn.forms hv
  rw [HLN.out.1, HLN.out.2.1] at HV
  rw [HLN.out.1] at hr1
  rw [HLN.out.2.1] at hr2
  rw [HLN.out.1, HLN.out.2.1]
  clear hb3 hv eX
  obtain ⟨Y, eY⟩ : ∃ Y, w3.alloc (.cells #[.int .i64 ev, .slice B1 cl r1, .slice B2 ll r2] 34) = Y := ⟨_, rfl⟩
  have HBY := Lib.hid (show Below w3.heap.size w3 Y by rw [← eY]; exact below_a1 _ _)
  have HY := Lib.hid (show ∀ W', Below Y.heap.size Y W' → (W'.cell? ⟨w3.heap.size, 0, none⟩ = some (.int .i64 ev) ∧ W'.cell? ⟨w3.heap.size, 1, none⟩ = some (.slice B1 cl r1) ∧ W'.cell? ⟨w3.heap.size, 2, none⟩ = some (.slice B2 ll r2)) by
    intro W' hb
    subst eY
    refine ⟨keepA hb ?_, keepA hb ?_, keepA hb ?_⟩ <;> go_simp)
  have HBYW := Lib.hid (bt HBY.out HB3.out)
  obtain ⟨x0, x1, x2⟩ := HX.out Y (bt HBY.out HX3.out)
  obtain ⟨y0, y1, y2⟩ := HY.out Y (Below.refl _ _)
  go_wp2_with fail
  refine (HSA.out _ _ _ _ Y (RpIn.up HU3.out HBY.out) (RpIn.up HV.out HBY.out)).mono ?_
  rintro e w4 ⟨rfl, hb4⟩
  have HB4Y := Lib.hid hb4
  have HB4 := Lib.hid (bt hb4 HBYW.out)
  have HS7 := Lib.hid (show ∀ W', Below w4.heap.size w4 W' → ((W'.cell? ⟨w2.heap.size, 0, none⟩ = some (.int .i64 ev) ∧ W'.cell? ⟨w2.heap.size, 1, none⟩ = some (.slice A1 cl q1) ∧ W'.cell? ⟨w2.heap.size, 2, none⟩ = some (.slice A2 ll q2)) ∧ W'.cell? ⟨w3.heap.size, 0, none⟩ = some (.int .i64 ev) ∧ W'.cell? ⟨w3.heap.size, 1, none⟩ = some (.slice B1 cl r1) ∧ W'.cell? ⟨w3.heap.size, 2, none⟩ = some (.slice B2 ll r2)) from
    fun W' hb => ⟨HX.out W' (bt (bt hb HB4Y.out) (bt HBY.out HX3.out)), HY.out W' (bt hb HB4Y.out)⟩)
  have HU4 := Lib.hid (RpIn.up (RpIn.up HU3.out HBY.out) HB4Y.out)
  have HV4 := Lib.hid (RpIn.up (RpIn.up HV.out HBY.out) HB4Y.out)
  clear hb4 x0 x1 x2 y0 y1 y2 eY
  rcases HEE.out with hE | hE
  · subst hE
    have HTX0 := Lib.hid (HTX.out rfl)
    have HRX0 := Lib.hid (HRX.out rfl)
    generalize repT RP = RT at *
    go_wp2_with fail
    refine regionZ 12 (fun W' => (W'.cell? ⟨w2.heap.size, 0, none⟩ = some (.int .i64 ev) ∧ W'.cell? ⟨w2.heap.size, 1, none⟩ = some (.slice A1 cl q1) ∧ W'.cell? ⟨w2.heap.size, 2, none⟩ = some (.slice A2 ll q2)) ∧ W'.cell? ⟨w3.heap.size, 0, none⟩ = some (.int .i64 ev) ∧ W'.cell? ⟨w3.heap.size, 1, none⟩ = some (.slice B1 cl r1) ∧ W'.cell? ⟨w3.heap.size, 2, none⟩ = some (.slice B2 ll r2)) (by kernel_rfl) (HS7.out _ (Below.refl _ w4).drew) (fun hH => ?_)
    refine takeZ 0 (v := ?_) (gi rfl) (by kernel_rfl) (fun _ _ _ h => h) hH (.inl ⟨rfl, fun w hW => ?_⟩) ?_
    rotate_left
    · (go_simp; try with_reducible rfl)
    try simp only [Act.put, List.setIfInBounds_toArray, List.set_cons_zero, List.set_cons_succ]
    refine takeZ 1 (v := ?_) (gi rfl) (by kernel_rfl) (fun _ _ _ h => h) hH (.inl ⟨rfl, fun w hW => ?_⟩) ?_
    rotate_left
    · (go_simp; try with_reducible rfl)
    try simp only [Act.put, List.setIfInBounds_toArray, List.set_cons_zero, List.set_cons_succ]
    refine takeZ 2 (v := ?_) (gi rfl) (by kernel_rfl) (fun _ _ _ h => h) hH (.inl ⟨rfl, fun w hW => ?_⟩) ?_
    rotate_left
    · (go_simp; try with_reducible rfl)
    try simp only [Act.put, List.setIfInBounds_toArray, List.set_cons_zero, List.set_cons_succ]
    refine takeZ 3 (v := ?_) (gi rfl) (by kernel_rfl) (fun _ _ _ h => h) hH (.inl ⟨rfl, fun w hW => ?_⟩) ?_
    rotate_left
    · (obtain ⟨⟨hW0, hW1, hW2⟩, hW3, hW4, hW5⟩ := hW; go_simp; try with_reducible rfl)
    try simp only [Act.put, List.setIfInBounds_toArray, List.set_cons_zero, List.set_cons_succ]
    refine takeZ 5 (v := ?_) (gi rfl) (by kernel_rfl) (fun _ _ _ h => h) hH (.inl ⟨rfl, fun w hW => ?_⟩) ?_
    rotate_left
    · (obtain ⟨⟨hW0, hW1, hW2⟩, hW3, hW4, hW5⟩ := hW; go_simp; try with_reducible rfl)
    try simp only [Act.put, List.setIfInBounds_toArray, List.set_cons_zero, List.set_cons_succ]
    refine oneZ 4 (by kernel_rfl) (gi rfl) (fun K hK => ?_)
    try simp only [Act.put, List.setIfInBounds_toArray, List.set_cons_zero, List.set_cons_succ]
    go_simp
    refine (HTX0.out _ _ w4.drew (G_below HG.out (bt (Below.refl _ w4).drew (bt HB4.out HB.out))) (RpIn.up HU4.out (Below.refl _ w4).drew)).mono ?_
    rintro e w5 ⟨rfl, hb5⟩
    have HB5 := Lib.hid (show Below w4.heap.size w4 w5 from bt hb5 (Below.refl _ w4).drew)
    clear hb5
    refine hK.out _ _ (fun _ => HS7.out _ HB5.out) (fun hH => ?_)
    replace hH := hH (by decide)
    clear hK K
    try simp only [Act.put, List.setIfInBounds_toArray, List.set_cons_zero, List.set_cons_succ]
    refine oneZ 6 (by kernel_rfl) (gi rfl) (fun K hK => ?_)
    try simp only [Act.put, List.setIfInBounds_toArray, List.set_cons_zero, List.set_cons_succ]
    go_simp
    refine (HRX0.out _ _ w5 (RpIn.up HV4.out HB5.out)).mono ?_
    rintro e w6 ⟨rfl, hb6⟩
    have HB6 := Lib.hid (bt hb6 HB5.out)
    clear hb6
    refine hK.out _ _ (fun _ => HS7.out _ HB6.out) (fun hH => ?_)
    replace hH := hH (by decide)
    clear hK K
    try simp only [Act.put, List.setIfInBounds_toArray, List.set_cons_zero, List.set_cons_succ]
    refine takeZ 7 (v := ?_) (gi rfl) (by kernel_rfl) (fun _ _ _ h => h) hH (.inl ⟨rfl, fun w hW => ?_⟩) ?_
    rotate_left
    · (go_simp; try with_reducible rfl)
    try simp only [Act.put, List.setIfInBounds_toArray, List.set_cons_zero, List.set_cons_succ]
    refine takeZ 8 (v := ?_) (gi rfl) (by kernel_rfl) (fun _ _ _ h => h) hH (.inl ⟨rfl, fun w hW => ?_⟩) ?_
    rotate_left
    · (go_simp; try with_reducible rfl)
    try simp only [Act.put, List.setIfInBounds_toArray, List.set_cons_zero, List.set_cons_succ]
    refine takeZ 9 (v := ?_) (gi rfl) (by kernel_rfl) (fun _ _ _ h => h) hH (.inl ⟨rfl, fun w hW => ?_⟩) ?_
    rotate_left
    · (go_simp; try with_reducible rfl)
    try simp only [Act.put, List.setIfInBounds_toArray, List.set_cons_zero, List.set_cons_succ]
    refine oneZ 10 (by kernel_rfl) (gi rfl) (fun K hK => ?_)
    try simp only [Act.put, List.setIfInBounds_toArray, List.set_cons_zero, List.set_cons_succ]
    go_simp
    refine (lives_any w6).mono ?_
    rintro e w7 ⟨rfl, hb7⟩
    have HB74 := Lib.hid (bt hb7 HB6.out)
    have HB7 := Lib.hid (bt HB74.out HB4.out)
    clear hb7
    refine hK.out _ _ (fun _ => HS7.out _ HB74.out) (fun hH => ?_)
    replace hH := hH (by decide)
    clear hK K
    try simp only [Act.put, List.setIfInBounds_toArray, List.set_cons_zero, List.set_cons_succ]
    refine takeZ 11 (v := ?_) (gi rfl) (by kernel_rfl) (fun _ _ _ h => h) hH (.inl ⟨rfl, fun w hW => ?_⟩) ?_
    rotate_left
    · (go_simp; try with_reducible rfl)
    try simp only [Act.put, List.setIfInBounds_toArray, List.set_cons_zero, List.set_cons_succ]
    refine yieldZ 12 (v := ?_) (by kernel_rfl) (gi rfl) hH (.inl ⟨rfl, fun w hW => ?_⟩) ?_
    rotate_left
    · (go_simp; try with_reducible rfl)
    try simp only [Act.put, List.setIfInBounds_toArray, List.set_cons_zero, List.set_cons_succ]
    refine doneZ (by kernel_rfl) ?_ _
    clear hH
    go_wp2_with fail
    go_ret
    exact ⟨rfl, bt HB7.out HB.out⟩
  · subst hE
    go_wp2_with fail
    refine regionZ 12 (fun W' => (W'.cell? ⟨w2.heap.size, 0, none⟩ = some (.int .i64 ev) ∧ W'.cell? ⟨w2.heap.size, 1, none⟩ = some (.slice A1 cl q1) ∧ W'.cell? ⟨w2.heap.size, 2, none⟩ = some (.slice A2 ll q2)) ∧ W'.cell? ⟨w3.heap.size, 0, none⟩ = some (.int .i64 ev) ∧ W'.cell? ⟨w3.heap.size, 1, none⟩ = some (.slice B1 cl r1) ∧ W'.cell? ⟨w3.heap.size, 2, none⟩ = some (.slice B2 ll r2)) (by kernel_rfl) (HS7.out _ (Below.refl _ w4).drew) (fun hH => ?_)
    refine takeZ 0 (v := ?_) (gi rfl) (by kernel_rfl) (fun _ _ _ h => h) hH (.inl ⟨rfl, fun w hW => ?_⟩) ?_
    rotate_left
    · (go_simp; try with_reducible rfl)
    try simp only [Act.put, List.setIfInBounds_toArray, List.set_cons_zero, List.set_cons_succ]
    refine takeZ 1 (v := ?_) (gi rfl) (by kernel_rfl) (fun _ _ _ h => h) hH (.inl ⟨rfl, fun w hW => ?_⟩) ?_
    rotate_left
    · (go_simp; try with_reducible rfl)
    try simp only [Act.put, List.setIfInBounds_toArray, List.set_cons_zero, List.set_cons_succ]
    refine takeZ 2 (v := ?_) (gi rfl) (by kernel_rfl) (fun _ _ _ h => h) hH (.inl ⟨rfl, fun w hW => ?_⟩) ?_
    rotate_left
    · (go_simp; try with_reducible rfl)
    try simp only [Act.put, List.setIfInBounds_toArray, List.set_cons_zero, List.set_cons_succ]
    refine takeZ 3 (gi rfl) (by kernel_rfl) (fun _ _ _ h => h) hH (.inr ⟨rfl, rfl⟩) ?_
    try simp only [Act.put, List.setIfInBounds_toArray, List.set_cons_zero, List.set_cons_succ]
    refine takeZ 4 (gi rfl) (by kernel_rfl) (fun _ _ _ h => h) hH (.inr ⟨rfl, rfl⟩) ?_
    try simp only [Act.put, List.setIfInBounds_toArray, List.set_cons_zero, List.set_cons_succ]
    refine takeZ 5 (gi rfl) (by kernel_rfl) (fun _ _ _ h => h) hH (.inr ⟨rfl, rfl⟩) ?_
    try simp only [Act.put, List.setIfInBounds_toArray, List.set_cons_zero, List.set_cons_succ]
    refine takeZ 6 (gi rfl) (by kernel_rfl) (fun _ _ _ h => h) hH (.inr ⟨rfl, rfl⟩) ?_
    try simp only [Act.put, List.setIfInBounds_toArray, List.set_cons_zero, List.set_cons_succ]
    refine takeZ 7 (gi rfl) (by kernel_rfl) (fun _ _ _ h => h) hH (.inr ⟨rfl, rfl⟩) ?_
    try simp only [Act.put, List.setIfInBounds_toArray, List.set_cons_zero, List.set_cons_succ]
    refine takeZ 8 (v := ?_) (gi rfl) (by kernel_rfl) (fun _ _ _ h => h) hH (.inl ⟨rfl, fun w hW => ?_⟩) ?_
    rotate_left
    · (go_simp; try with_reducible rfl)
    try simp only [Act.put, List.setIfInBounds_toArray, List.set_cons_zero, List.set_cons_succ]
    refine takeZ 9 (v := ?_) (gi rfl) (by kernel_rfl) (fun _ _ _ h => h) hH (.inl ⟨rfl, fun w hW => ?_⟩) ?_
    rotate_left
    · (go_simp; try with_reducible rfl)
    try simp only [Act.put, List.setIfInBounds_toArray, List.set_cons_zero, List.set_cons_succ]
    refine oneZ 10 (by kernel_rfl) (gi rfl) (fun K hK => ?_)
    try simp only [Act.put, List.setIfInBounds_toArray, List.set_cons_zero, List.set_cons_succ]
    go_simp
    refine (lives_any w4.drew).mono ?_
    rintro e w7 ⟨rfl, hb7⟩
    have HB74 := Lib.hid (bt hb7 (show Below w4.heap.size w4 w4.drew from (Below.refl _ w4).drew))
    have HB7 := Lib.hid (bt HB74.out HB4.out)
    clear hb7
    refine hK.out _ _ (fun _ => HS7.out _ HB74.out) (fun hH => ?_)
    replace hH := hH (by decide)
    clear hK K
    try simp only [Act.put, List.setIfInBounds_toArray, List.set_cons_zero, List.set_cons_succ]
    refine takeZ 11 (v := ?_) (gi rfl) (by kernel_rfl) (fun _ _ _ h => h) hH (.inl ⟨rfl, fun w hW => ?_⟩) ?_
    rotate_left
    · (go_simp; try with_reducible rfl)
    try simp only [Act.put, List.setIfInBounds_toArray, List.set_cons_zero, List.set_cons_succ]
    refine yieldZ 12 (v := ?_) (by kernel_rfl) (gi rfl) hH (.inl ⟨rfl, fun w hW => ?_⟩) ?_
    rotate_left
    · (go_simp; try with_reducible rfl)
    try simp only [Act.put, List.setIfInBounds_toArray, List.set_cons_zero, List.set_cons_succ]
    refine doneZ (by kernel_rfl) ?_ _
    clear hH
    go_wp2_with fail
    go_ret
    exact ⟨rfl, bt HB7.out HB.out⟩
end Go.Proofs.YtcaeihfgdlffkaaGreatRRRRDoor.RtlW

/- The arguments of the report's laws: a column, scores, vectors, numbers: opened (lines of OpenT). -/
namespace Go.Proofs.YtcaeihfgdlffkaaGreatRRRRDoor.OpnR
set_option maxRecDepth 100000
set_option linter.unusedVariables false
open Go.ChangeShapes Go.WideShapes Go.RowKit Go.Deep Go.Joins Base SeqM RptC RptN RptM RptO ScoX DevW LevM VecW SumW BigZ
variable {H : Type} {enc : TypeId × Value → H} {w : World}

theorem add_block' (a : Addr) (k : Nat) : (a.add k).block = a.block := by unfold Addr.add; split <;> rfl
theorem add_add' (a : Addr) (i j : Nat) : (a.add i).add j = a.add (i + j) := by
  unfold Addr.add
  by_cases hi : i = 0
  · subst hi; simp
  · by_cases hj : j = 0
    · subst hj; simp [hi]
    · rw [if_neg hi, if_neg hj, if_neg (by omega)]
      simp only [Addr.mk.injEq, true_and, and_true]
      omega
/-- a row of whatever elements -/
theorem open_row {α : Type} [Inhabited α] {kc : Nat} {f : α → List Value} {Q : α → Prop} (hk : ∀ x, (f x).length = kc) (h0 : 0 < kc) {t e : TypeId} (hu : Tryz.prog.underlying t = some (.slice e)) (ce : Tryz.prog.cellsOf e = kc)
    (hone : ∀ (a : Addr) (cs : List Value) (n : Nat) (x : DataW H × List MemPlace), w.cells? 0 a kc = some cs → DataW.trod enc Tryz.prog w 0 (fun _ => true) true n e cs = some x → ∃ y, cs = f y ∧ Q y)
    {v : Value} {n : Nat} {x : DataW H × List MemPlace} (hn : DataW.trod enc Tryz.prog w 0 (fun _ => true) true n t [v] = some x) : ∃ l, Seq kc f w 0 w.heap.size v l ∧ ∀ y ∈ l, Q y := by
  rcases open_slice hu hn with ⟨hc, _⟩ | ⟨a', len, cap, m, k, D, Pl, hc, _, hl, hm, hmm, hx, hall⟩
  · obtain rfl : v = .slice none 0 0 := by simpa using hc
    exact ⟨[], Seq.nil_, fun x hx => by cases hx⟩
  · obtain rfl : v = .slice (some a') len cap := by simpa using hc
    simp only [if_true] at hmm
    rw [ce] at hall
    have each : ∀ i, i < len → ∃ y : α, w.cells? 0 (a'.add (i * kc)) kc = some (f y) ∧ Q y := by
      intro i hi
      obtain ⟨cs', h1, h2⟩ := hall i (by omega)
      obtain ⟨y, rfl, hy⟩ := hone _ _ _ _ h1 h2
      exact ⟨y, h1, hy⟩
    obtain ⟨q, hq⟩ := choose_lt each
    have hlen : ((List.range len).map q).length = len := by simp
    have get : ∀ i x, ((List.range len).map q)[i]? = some x → i < len ∧ x = q i := by
      intro i x hi
      rw [List.getElem?_map] at hi
      have hil : i < len := by
        rcases Nat.lt_or_ge i len with h | h
        · exact h
        · rw [List.getElem?_eq_none (by simpa using h)] at hi; cases hi
      rw [List.getElem?_range hil] at hi
      exact ⟨hil, (Option.some.inj hi).symm⟩
    refine ⟨(List.range len).map q, ⟨some a', cap, by rw [hlen], by rw [hlen]; exact hl, hm, ⟨?_, fun h1 => ?_⟩, fun hh => by cases hh⟩, ?_⟩
    · exact flat_len hk _
    · rw [hlen] at h1
      refine ⟨a', rfl, Nat.zero_le _, ?_, fun j u hu => ?_⟩
      · obtain ⟨_, _, hat⟩ := World.cells?_some (hq 0 h1).1
        obtain ⟨u, hu⟩ : ∃ u, (f (q 0))[0]? = some u := ⟨_, List.getElem?_eq_getElem (by rw [hk]; exact h0)⟩
        have := World.block_lt_of_cell? w _ ((hat 0 h0).trans hu)
        rwa [add_block', add_block'] at this
      · obtain ⟨x, hx, hu⟩ := flat_get hk h0 _ j u hu
        obtain ⟨hil, rfl⟩ := get _ _ hx
        obtain ⟨_, _, hat⟩ := World.cells?_some (hq _ hil).1
        have := hat (j % kc) (Nat.mod_lt _ h0)
        rw [add_add', show j / kc * kc + j % kc = j by rw [Nat.mul_comm]; exact Nat.div_add_mod j kc] at this
        rw [this]; exact hu
    · intro x hx
      obtain ⟨i, hi, rfl⟩ := List.mem_map.1 hx
      exact (hq i (List.mem_range.1 hi)).2
/-- the words of an int, within its kind -/
theorem one_int (a : Addr) (cs : List Value) (n : Nat) (x : DataW H × List MemPlace) (h1 : w.cells? 0 a 1 = some cs) (h2 : DataW.trod enc Tryz.prog w 0 (fun _ => true) true n 3 cs = some x) : ∃ y : Int, cs = inC y ∧ I64 y := by
  obtain ⟨n0, e0, _, w0⟩ := DataW.trod_int Tryz.underlying3 h2
  exact ⟨n0, by simpa [inC] using e0, by simpa [I64, Lit.wf, IntKind.min, IntKind.max, IntKind.signed, IntKind.bits] using w0⟩
theorem row_int' {v : Value} {n : Nat} {x : DataW H × List MemPlace} (hn : DataW.trod enc Tryz.prog w 0 (fun _ => true) true n 32 [v] = some x) : ∃ l, Seq 1 inC w 0 w.heap.size v l ∧ ∀ y ∈ l, I64 y :=
  open_row (Q := I64) inC_len (by omega) Tryz.underlying32 (by kernel_rfl) one_int hn
theorem row_int {v : Value} {n : Nat} {x : DataW H × List MemPlace} (hn : DataW.trod enc Tryz.prog w 0 (fun _ => true) true n 32 [v] = some x) : ∃ l, Seq 1 inC w 0 w.heap.size v l := by
  obtain ⟨l, h, _⟩ := row_int' hn
  exact ⟨l, h⟩
theorem open_vec {b0 : Nat} {v : Value} {d : DataW H} {ps : List MemPlace} (hv : Value.okWide Tryz.prog w .any b0 32 v) (h : DataW.Trod enc Tryz.prog w 0 (fun _ => true) true 32 v d ps) : ∃ l, Seq 1 inC w 0 w.heap.size v l ∧ ∀ y ∈ l, I64 y := by
  obtain ⟨a, len, cap, rfl⟩ := okWide_slice Tryz.underlying32 hv
  obtain ⟨n, hn⟩ := h
  exact row_int' hn
theorem one_vec (a : Addr) (cs : List Value) (n : Nat) (x : DataW H × List MemPlace) (h1 : w.cells? 0 a 1 = some cs) (h2 : DataW.trod enc Tryz.prog w 0 (fun _ => true) true n 32 cs = some x) : ∃ y : Value × List Int, cs = vcC y ∧ Seq 1 inC w 0 w.heap.size y.1 y.2 := by
  obtain ⟨_, hlen, _⟩ := World.cells?_some h1
  match cs, hlen with
  | [v], _ =>
    obtain ⟨l, hl⟩ := row_int h2
    exact ⟨(v, l), rfl, hl⟩
theorem open_vecs {b0 : Nat} {v : Value} {d : DataW H} {ps : List MemPlace} (hv : Value.okWide Tryz.prog w .any b0 44 v) (h : DataW.Trod enc Tryz.prog w 0 (fun _ => true) true 44 v d ps) : ∃ l, Vecs w 0 w.heap.size v l := by
  obtain ⟨a, len, cap, rfl⟩ := okWide_slice Tryz.underlying44 hv
  obtain ⟨n, hn⟩ := h
  obtain ⟨rs, hs, hc⟩ := open_row (Q := fun y : Value × List Int => Seq 1 inC w 0 w.heap.size y.1 y.2) vcC_len (by omega) Tryz.underlying44 (by kernel_rfl) one_vec hn
  exact ⟨rs.map (·.2), rs, rfl, hs, hc⟩
theorem wf64 {x : Int} (w0 : (Lit.int .i64 x).wf = true) : I64 x := by simpa [I64, Lit.wf, IntKind.min, IntKind.max, IntKind.signed, IntKind.bits] using w0
theorem wfu {x : Int} (w0 : (Lit.int .u64 x).wf = true) : 0 ≤ x ∧ x ≤ 18446744073709551615 := by simpa [Lit.wf, IntKind.min, IntKind.max, IntKind.signed, IntKind.bits] using w0
theorem one_score (a : Addr) (cs : List Value) (n : Nat) (x : DataW H × List MemPlace) (h1 : w.cells? 0 a 2 = some cs) (h2 : DataW.trod enc Tryz.prog w 0 (fun _ => true) true n 55 cs = some x) : ∃ y : Int × Int, cs = scC y ∧ Fit y.1 y.2 := by
  obtain ⟨_, hlen, _⟩ := World.cells?_some h1
  obtain ⟨xs, k, hk, hxy, _, hxl, hf⟩ := DataW.trod_struct Tryz.underlying55 h2
  match xs, hxl, cs, hlen with
  | [y0, y1], _, [v0, v1], _ =>
    have g0 := hf 0 _ rfl
    have g1 := hf 1 _ rfl
    have cI : Tryz.prog.cellsOf 3 = 1 := by kernel_rfl
    simp [cI] at g0 g1
    obtain ⟨n1, e1, _, w1⟩ := DataW.trod_int Tryz.underlying3 g0
    obtain ⟨n2, e2, _, w2⟩ := DataW.trod_int Tryz.underlying3 g1
    simp only [List.cons.injEq, and_true] at e1 e2
    subst e1; subst e2
    exact ⟨(n1, n2), rfl, wf64 w1, wf64 w2⟩
theorem open_scores {b0 : Nat} {v : Value} {d : DataW H} {ps : List MemPlace} (hv : Value.okWide Tryz.prog w .any b0 56 v) (h : DataW.Trod enc Tryz.prog w 0 (fun _ => true) true 56 v d ps) : ∃ l, Seq 2 scC w 0 w.heap.size v l ∧ Fits2 l := by
  obtain ⟨a, len, cap, rfl⟩ := okWide_slice Tryz.underlying56 hv
  obtain ⟨n, hn⟩ := h
  exact open_row (f := scC) (Q := fun y : Int × Int => Fit y.1 y.2) (fun _ => rfl) (by omega) Tryz.underlying56 (by kernel_rfl) one_score hn
theorem open_col {b0 : Nat} {v : Value} {d : DataW H} {ps : List MemPlace} (hv : Value.okWide Tryz.prog w .any b0 51 v) (h : DataW.Trod enc Tryz.prog w 0 (fun _ => true) true 51 v d ps) : ∃ c : Col, v = CV c ∧ Spr c.sp := by
  obtain ⟨cs0, rfl, hsz⟩ := okWide_struct Tryz.underlying51 hv
  obtain ⟨n, hn⟩ := h
  have hc : Tryz.prog.cellsOf 51 = 6 := by kernel_rfl
  obtain ⟨cs, rfl⟩ : ∃ cs : List Value, cs0 = cs.toArray := ⟨cs0.toList, by simp⟩
  have hlen : cs.length = 6 := by simpa [hc] using hsz
  have h2 : DataW.trod enc Tryz.prog w 0 (fun _ => true) true n 51 cs = some (d, ps) := by simpa [Value.cells] using hn
  obtain ⟨xs, k, hk, hxy, _, hxl, hf⟩ := DataW.trod_struct Tryz.underlying51 h2
  match xs, hxl, cs, hlen with
  | [y0, y1, y2, y3, y4], _, [v0, v1, v2, v3, v4, v5], _ =>
    have g0 := hf 0 _ rfl
    have g1 := hf 1 _ rfl
    have g2 := hf 2 _ rfl
    have g3 := hf 3 _ rfl
    have g4 := hf 4 _ rfl
    have cI : Tryz.prog.cellsOf 3 = 1 := by kernel_rfl
    have cW : Tryz.prog.cellsOf 49 = 2 := by kernel_rfl
    simp [cI, cW] at g0 g1 g2 g3 g4
    obtain ⟨ys, k2, hk2, _, _, hyl, hg⟩ := DataW.trod_struct Tryz.underlying49 g4
    match ys, hyl with
    | [z0, z1], _ =>
      have q0 := hg 0 _ rfl
      have q1 := hg 1 _ rfl
      have cU : Tryz.prog.cellsOf 47 = 1 := by kernel_rfl
      simp [cU] at q0 q1
      obtain ⟨n1, e1, _, _⟩ := DataW.trod_int Tryz.underlying3 g0
      obtain ⟨n2, e2, _, _⟩ := DataW.trod_int Tryz.underlying3 g1
      obtain ⟨n3, e3, _, _⟩ := DataW.trod_int Tryz.underlying3 g2
      obtain ⟨n4, e4, _, _⟩ := DataW.trod_int Tryz.underlying3 g3
      obtain ⟨n5, e5, _, w5⟩ := DataW.trod_int Tryz.underlying47 q0
      obtain ⟨n6, e6, _, w6⟩ := DataW.trod_int Tryz.underlying47 q1
      simp only [List.cons.injEq, and_true] at e1 e2 e3 e4 e5 e6
      subst e1; subst e2; subst e3; subst e4; subst e5; subst e6
      have u5 := wfu w5
      have u6 := wfu w6
      refine ⟨⟨n1, n2, n3, n4, n5 * 18446744073709551616 + n6⟩, ?_, ?_⟩
      · unfold CV colC
        dsimp only
        have a1 : hiW (n5 * 18446744073709551616 + n6) = n5 := by unfold hiW; omega
        have a2 : loW (n5 * 18446744073709551616 + n6) = n6 := by unfold loW; omega
        rw [a1, a2]
      · unfold Spr
        dsimp only
        omega
end Go.Proofs.YtcaeihfgdlffkaaGreatRRRRDoor.OpnR

/- A state as an argument: opened (lines of OpnR, OpenT). -/
namespace Go.Proofs.YtcaeihfgdlffkaaGreatRRRRDoor.OpnS
set_option maxRecDepth 100000
set_option linter.unusedVariables false
open Go.ChangeShapes Go.WideShapes Go.RowKit Go.Deep Go.Joins Base SeqM CfM RptC ScoX ShpM ShpT StM StV OpnR
variable {H : Type} {enc : TypeId × Value → H} {w : World}

instance : Inhabited Nd := ⟨⟨[], 0, 0, 0, 0⟩⟩
instance : Inhabited Sn := ⟨⟨0, [], 0, 0, false⟩⟩
instance : Inhabited Gr := ⟨⟨0, [], 0⟩⟩
instance : Inhabited Al := ⟨⟨0, 0, 0, 0, 0, 0⟩⟩
theorem cI : Tryz.prog.cellsOf 3 = 1 := by kernel_rfl
theorem cB : Tryz.prog.cellsOf 4 = 1 := by kernel_rfl
theorem cVI : Tryz.prog.cellsOf 32 = 1 := by kernel_rfl
theorem cSc : Tryz.prog.cellsOf 55 = 2 := by kernel_rfl
theorem cCut : Tryz.prog.cellsOf 127 = 2 := by kernel_rfl
theorem cTr : Tryz.prog.cellsOf 105 = 2 := by kernel_rfl
theorem cNV : Tryz.prog.cellsOf 103 = 1 := by kernel_rfl
theorem cCf : Tryz.prog.cellsOf 23 = 11 := by kernel_rfl
theorem cWin : Tryz.prog.cellsOf 24 = 1 := by kernel_rfl
theorem cFor : Tryz.prog.cellsOf 25 = 1 := by kernel_rfl
theorem cAls : Tryz.prog.cellsOf 26 = 1 := by kernel_rfl
theorem cSt : Tryz.prog.cellsOf 28 = 17 := by kernel_rfl
theorem one_node (a : Addr) (cs : List Value) (n : Nat) (x : DataW H × List MemPlace) (h1 : w.cells? 0 a 5 = some cs) (h2 : DataW.trod enc Tryz.prog w 0 (fun _ => true) true n 129 cs = some x) : ∃ y : Value × Nd, cs = ndC y ∧ Seq 1 inC w 0 w.heap.size y.1 y.2.coef := by
  obtain ⟨_, hlen, _⟩ := World.cells?_some h1
  obtain ⟨xs, k, hk, hxy, _, hxl, hf⟩ := DataW.trod_struct Tryz.underlying129 h2
  match xs, hxl, cs, hlen with
  | [y0, y1, y2, y3], _, [v0, v1, v2, v3, v4], _ =>
    have g0 := hf 0 _ rfl
    have g1 := hf 1 _ rfl
    have g2 := hf 2 _ rfl
    have g3 := hf 3 _ rfl
    simp [cI, cCut] at g0 g1 g2 g3
    obtain ⟨ys, k2, hk2, _, _, hyl, hg⟩ := DataW.trod_struct Tryz.underlying127 g0
    match ys, hyl with
    | [z0, z1], _ =>
      have q0 := hg 0 _ rfl
      have q1 := hg 1 _ rfl
      simp [cI, cVI] at q0 q1
      obtain ⟨l, hl⟩ := row_int q0
      obtain ⟨n1, e1, _, _⟩ := DataW.trod_int Tryz.underlying3 q1
      obtain ⟨n2, e2, _, _⟩ := DataW.trod_int Tryz.underlying3 g1
      obtain ⟨n3, e3, _, _⟩ := DataW.trod_int Tryz.underlying3 g2
      obtain ⟨n4, e4, _, _⟩ := DataW.trod_int Tryz.underlying3 g3
      simp only [List.cons.injEq, and_true] at e1 e2 e3 e4
      subst e1; subst e2; subst e3; subst e4
      exact ⟨(v0, ⟨l, n1, n2, n3, n4⟩), rfl, hl⟩
theorem row_node {v : Value} {n : Nat} {x : DataW H × List MemPlace} (hn : DataW.trod enc Tryz.prog w 0 (fun _ => true) true n 103 [v] = some x) : ∃ l, Nds w 0 w.heap.size v l := by
  obtain ⟨rs, hs, hc⟩ := open_row (Q := fun y : Value × Nd => Seq 1 inC w 0 w.heap.size y.1 y.2.coef) ndC_len (by omega) Tryz.underlying103 (by kernel_rfl) one_node hn
  exact ⟨rs.map (·.2), rs, rfl, hs, hc⟩
theorem one_seen (a : Addr) (cs : List Value) (n : Nat) (x : DataW H × List MemPlace) (h1 : w.cells? 0 a 5 = some cs) (h2 : DataW.trod enc Tryz.prog w 0 (fun _ => true) true n 59 cs = some x) : ∃ y : Value × Sn, cs = snC y ∧ (Seq 1 inC w 0 w.heap.size y.1 y.2.xs ∧ SnI y.2) := by
  obtain ⟨_, hlen, _⟩ := World.cells?_some h1
  obtain ⟨xs, k, hk, hxy, _, hxl, hf⟩ := DataW.trod_struct Tryz.underlying59 h2
  match xs, hxl, cs, hlen with
  | [y0, y1, y2, y3], _, [v0, v1, v2, v3, v4], _ =>
    have g0 := hf 0 _ rfl
    have g1 := hf 1 _ rfl
    have g2 := hf 2 _ rfl
    have g3 := hf 3 _ rfl
    simp [cI, cVI, cSc, cB] at g0 g1 g2 g3
    obtain ⟨ys, k2, hk2, _, _, hyl, hg⟩ := DataW.trod_struct Tryz.underlying55 g2
    match ys, hyl with
    | [z0, z1], _ =>
      have q0 := hg 0 _ rfl
      have q1 := hg 1 _ rfl
      simp [cI] at q0 q1
      obtain ⟨n0, e0, _, w0⟩ := DataW.trod_int Tryz.underlying3 g0
      obtain ⟨l, hl⟩ := row_int g1
      obtain ⟨n2, e2, _, w2⟩ := DataW.trod_int Tryz.underlying3 q0
      obtain ⟨n3, e3, _, w3⟩ := DataW.trod_int Tryz.underlying3 q1
      obtain ⟨b, e4, _⟩ := DataW.trod_bool Tryz.underlying4 g3
      simp only [List.cons.injEq, and_true] at e0 e2 e3 e4
      subst e0; subst e2; subst e3; subst e4
      exact ⟨(v1, ⟨n0, l, n2, n3, b⟩), rfl, hl, wf64 w0, wf64 w2, wf64 w3⟩
theorem one_grown (a : Addr) (cs : List Value) (n : Nat) (x : DataW H × List MemPlace) (h1 : w.cells? 0 a 3 = some cs) (h2 : DataW.trod enc Tryz.prog w 0 (fun _ => true) true n 107 cs = some x) : ∃ y : Value × Gr, cs = grC y ∧ (Nds w 0 w.heap.size y.1 y.2.nodes ∧ GrI y.2) := by
  obtain ⟨_, hlen, _⟩ := World.cells?_some h1
  obtain ⟨xs, k, hk, hxy, _, hxl, hf⟩ := DataW.trod_struct Tryz.underlying107 h2
  match xs, hxl, cs, hlen with
  | [y0, y1], _, [v0, v1, v2], _ =>
    have g0 := hf 0 _ rfl
    have g1 := hf 1 _ rfl
    simp [cI, cTr] at g0 g1
    obtain ⟨ys, k2, hk2, _, _, hyl, hg⟩ := DataW.trod_struct Tryz.underlying105 g0
    match ys, hyl with
    | [z0, z1], _ =>
      have q0 := hg 0 _ rfl
      have q1 := hg 1 _ rfl
      simp [cI, cNV] at q0 q1
      obtain ⟨n0, e0, _, w0⟩ := DataW.trod_int Tryz.underlying3 q0
      obtain ⟨l, hl⟩ := row_node q1
      obtain ⟨n2, e2, _, w2⟩ := DataW.trod_int Tryz.underlying3 g1
      simp only [List.cons.injEq, and_true] at e0 e2
      subst e0; subst e2
      exact ⟨(v1, ⟨n0, l, n2⟩), rfl, hl, wf64 w2⟩
theorem one_alert (a : Addr) (cs : List Value) (n : Nat) (x : DataW H × List MemPlace) (h1 : w.cells? 0 a 6 = some cs) (h2 : DataW.trod enc Tryz.prog w 0 (fun _ => true) true n 131 cs = some x) : ∃ y : Al, cs = alC y ∧ AlI y := by
  obtain ⟨_, hlen, _⟩ := World.cells?_some h1
  obtain ⟨xs, k, hk, hxy, _, hxl, hf⟩ := DataW.trod_struct Tryz.underlying131 h2
  match xs, hxl, cs, hlen with
  | [y0, y1, y2, y3], _, [v0, v1, v2, v3, v4, v5], _ =>
    have g0 := hf 0 _ rfl
    have g1 := hf 1 _ rfl
    have g2 := hf 2 _ rfl
    have g3 := hf 3 _ rfl
    simp [cI, cSc] at g0 g1 g2 g3
    obtain ⟨ys, k2, hk2, _, _, hyl, hg⟩ := DataW.trod_struct Tryz.underlying55 g2
    obtain ⟨us, k3, hk3, _, _, hul, hh⟩ := DataW.trod_struct Tryz.underlying55 g3
    match ys, hyl, us, hul with
    | [z0, z1], _, [u0, u1], _ =>
      have q0 := hg 0 _ rfl
      have q1 := hg 1 _ rfl
      have r0 := hh 0 _ rfl
      have r1 := hh 1 _ rfl
      simp [cI] at q0 q1 r0 r1
      obtain ⟨n0, e0, _, w0⟩ := DataW.trod_int Tryz.underlying3 g0
      obtain ⟨n1, e1, _, w1⟩ := DataW.trod_int Tryz.underlying3 g1
      obtain ⟨n2, e2, _, w2⟩ := DataW.trod_int Tryz.underlying3 q0
      obtain ⟨n3, e3, _, w3⟩ := DataW.trod_int Tryz.underlying3 q1
      obtain ⟨n4, e4, _, w4⟩ := DataW.trod_int Tryz.underlying3 r0
      obtain ⟨n5, e5, _, w5⟩ := DataW.trod_int Tryz.underlying3 r1
      simp only [List.cons.injEq, and_true] at e0 e1 e2 e3 e4 e5
      subst e0; subst e1; subst e2; subst e3; subst e4; subst e5
      exact ⟨⟨n0, n1, n2, n3, n4, n5⟩, rfl, wf64 w0, wf64 w1, ⟨wf64 w2, wf64 w3⟩, wf64 w4, wf64 w5⟩
/-- A STATE'S SEVENTEEN CELLS -/
theorem state_of (cs : List Value) (hlen : cs.length = 17) (n : Nat) (x : DataW H × List MemPlace) (h2 : DataW.trod enc Tryz.prog w 0 (fun _ => true) true n 28 cs = some x) : ∃ s wv fv av, cs = stC s wv fv av ∧ StIn w w.heap.size s wv fv av ∧ StI s := by
  obtain ⟨xs, k, hk, hxy, _, hxl, hf⟩ := DataW.trod_struct Tryz.underlying28 h2
  match xs, hxl, cs, hlen with
  | [y0, y1, y2, y3, y4, y5, y6], _, [v0, v1, v2, v3, v4, v5, v6, v7, v8, v9, v10, v11, v12, v13, v14, v15, v16], _ =>
    have g0 := hf 0 _ rfl
    have g1 := hf 1 _ rfl
    have g2 := hf 2 _ rfl
    have g3 := hf 3 _ rfl
    have g4 := hf 4 _ rfl
    have g5 := hf 5 _ rfl
    have g6 := hf 6 _ rfl
    simp [cI, cCf, cWin, cFor, cAls] at g0 g1 g2 g3 g4 g5 g6
    obtain ⟨m1, k1, _, l1⟩ := DataW.trod_int Tryz.underlying3 g1
    obtain ⟨m2, k2, _, l2⟩ := DataW.trod_int Tryz.underlying3 g2
    obtain ⟨m3, k3, _, l3⟩ := DataW.trod_int Tryz.underlying3 g3
    obtain ⟨ws, hws, hwq⟩ := open_row (f := snC) (Q := fun y : Value × Sn => Seq 1 inC w 0 w.heap.size y.1 y.2.xs ∧ SnI y.2) snC_len (by omega) Tryz.underlying24 (by kernel_rfl) one_seen g4
    obtain ⟨fs, hfs, hfq⟩ := open_row (f := grC) (Q := fun y : Value × Gr => Nds w 0 w.heap.size y.1 y.2.nodes ∧ GrI y.2) grC_len (by omega) Tryz.underlying25 (by kernel_rfl) one_grown g5
    obtain ⟨als, has, haq⟩ := open_row (f := alC) (Q := AlI) alC_len (by omega) Tryz.underlying26 (by kernel_rfl) one_alert g6
    obtain ⟨zs, k7, _, _, _, hzl, hg⟩ := DataW.trod_struct Tryz.underlying23 g0
    match zs, hzl with
    | [z0, z1, z2, z3, z4, z5, z6, z7, z8, z9, z10], _ =>
      have q0 := hg 0 _ rfl
      have q1 := hg 1 _ rfl
      have q2 := hg 2 _ rfl
      have q3 := hg 3 _ rfl
      have q4 := hg 4 _ rfl
      have q5 := hg 5 _ rfl
      have q6 := hg 6 _ rfl
      have q7 := hg 7 _ rfl
      have q8 := hg 8 _ rfl
      have q9 := hg 9 _ rfl
      have q10 := hg 10 _ rfl
      simp [cI] at q0 q1 q2 q3 q4 q5 q6 q7 q8 q9 q10
      obtain ⟨c0, f0, _, w0⟩ := DataW.trod_int Tryz.underlying3 q0
      obtain ⟨c1, f1, _, w1⟩ := DataW.trod_int Tryz.underlying3 q1
      obtain ⟨c2, f2, _, w2⟩ := DataW.trod_int Tryz.underlying3 q2
      obtain ⟨c3, f3, _, w3⟩ := DataW.trod_int Tryz.underlying3 q3
      obtain ⟨c4, f4, _, w4⟩ := DataW.trod_int Tryz.underlying3 q4
      obtain ⟨c5, f5, _, w5⟩ := DataW.trod_int Tryz.underlying3 q5
      obtain ⟨c6, f6, _, w6⟩ := DataW.trod_int Tryz.underlying3 q6
      obtain ⟨c7, f7, _, w7⟩ := DataW.trod_int Tryz.underlying3 q7
      obtain ⟨c8, f8, _, w8⟩ := DataW.trod_int Tryz.underlying3 q8
      obtain ⟨c9, f9, _, w9⟩ := DataW.trod_int Tryz.underlying3 q9
      obtain ⟨c10, f10, _, w10⟩ := DataW.trod_int Tryz.underlying3 q10
      simp only [List.cons.injEq, and_true] at k1 k2 k3 f0 f1 f2 f3 f4 f5 f6 f7 f8 f9 f10
      subst k1; subst k2; subst k3
      subst f0; subst f1; subst f2; subst f3; subst f4; subst f5; subst f6; subst f7; subst f8; subst f9; subst f10
      refine ⟨⟨⟨c0, c1, c2, c3, c4, c5, c6, c7, c8, c9, c10⟩, m1, m2, m3, ws.map (·.2), fs.map (·.2), als⟩, v14, v15, v16, rfl, ⟨⟨ws, rfl, hws, fun r hr => (hwq r hr).1⟩, ⟨fs, rfl, hfs, fun r hr => (hfq r hr).1⟩, has⟩, ⟨wf64 w0, wf64 w1, wf64 w7⟩, wf64 l1, wf64 l2, wf64 l3, ?_, ?_, haq⟩
      · intro y hy
        obtain ⟨r, hr, rfl⟩ := List.mem_map.1 hy
        exact (hwq r hr).2
      · intro y hy
        obtain ⟨r, hr, rfl⟩ := List.mem_map.1 hy
        exact (hfq r hr).2
theorem open_state {b0 : Nat} {v : Value} {d : DataW H} {ps : List MemPlace} (hv : Value.okWide Tryz.prog w .any b0 28 v) (h : DataW.Trod enc Tryz.prog w 0 (fun _ => true) true 28 v d ps) :
    ∃ s wv fv av, v = .agg (stC s wv fv av).toArray ∧ StIn w w.heap.size s wv fv av ∧ StI s := by
  obtain ⟨cs, rfl, hsz⟩ := okWide_struct Tryz.underlying28 hv
  obtain ⟨n, hn⟩ := h
  obtain ⟨s, wv, fv, av, e, h1, h2⟩ := state_of cs.toList (by rw [Array.length_toList, hsz, cSt]) n _ hn
  exact ⟨s, wv, fv, av, by rw [← e, Array.toArray_toList], h1, h2⟩
end Go.Proofs.YtcaeihfgdlffkaaGreatRRRRDoor.OpnS

/- The frame's step for a law over arguments of whatever types: behind a walk that ends in 'Below', every argument reads as it did. -/
namespace Go.Proofs.YtcaeihfgdlffkaaGreatRRRRDoor.Stay
open Go.ChangeShapes Go.WideShapes Go.RowKit Go.WideElems Base
variable {H : Type} {enc : TypeId × Value → H} {P : Program} {base : Nat} {W W' : World} {sp' : Nat → Bool}

theorem trodAll_stays (hl : laidOutB P = true) : ∀ {ts : List TypeId} {vs : List Value} {ds : List (DataW H)} {ps : List MemPlace}, (∀ t ∈ ts, P.readableRec t = true ∧ t < P.types.size) →
    DataW.TrodAll enc P W base (fun _ => true) true ts vs ds ps → (∀ p ∈ ps, W.sameAt W' p) → (∀ p ∈ ps, sp' p.block = true) → DataW.TrodAll enc P W' base sp' true ts vs ds ps
  | [], [], [], ps, _, h, _, _ => h
  | t :: ts, v :: vs, d :: ds, ps, ht, ⟨p, q, h, hs, e⟩, hsame, hsp => by
    subst e
    exact ⟨p, q, Trod_stays hl (ht t (List.mem_cons_self ..)).1 (ht t (List.mem_cons_self ..)).2 h (fun x hx => hsame x (List.mem_append_left _ hx)) (fun x hx => hsp x (List.mem_append_left _ hx)),
      trodAll_stays hl (fun t' h' => ht t' (List.mem_cons_of_mem _ h')) hs (fun x hx => hsame x (List.mem_append_right _ hx)) (fun x hx => hsp x (List.mem_append_right _ hx)), rfl⟩
end Go.Proofs.YtcaeihfgdlffkaaGreatRRRRDoor.Stay
