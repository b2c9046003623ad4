/- Is a state right? state.Right, walked (printed by mkstr.py). -/
import Derived.Test.YtcaeihfgdlffkaaGreatRRRRDoorPk08
import Derived.Test.YtcaeihfgdlffkaaGreatRRRRDoorPk16
import Derived.Test.YtcaeihfgdlffkaaGreatRRRRDoorPk19
import Derived.Test.YtcaeihfgdlffkaaGreatRRRRDoorPk13
import Derived.Test.YtcaeihfgdlffkaaGreatRRRRDoorPk15
namespace Go.Proofs.YtcaeihfgdlffkaaGreatRRRRDoor.StrW
set_option linter.unusedVariables false
set_option linter.unusedSimpArgs false
open Go.RowKit Base SeqM CfM SchX SchY SchZ StaF StM StV WinW TrwW AltW

def RtRel (s : St) (X : World) (i : Value) (wr : World) : Prop := ∃ k : Nat, k ≤ 3 ∧ i = .int .i64 k ∧ (1 ≤ k → windowB s = true) ∧ (2 ≤ k → treesB s = true) ∧ (3 ≤ k → alertsB s = true) ∧ Below X.heap.size X wr
set_option maxHeartbeats 8000000 in
set_option maxRecDepth 100000 in
theorem Right_any (s : St) (wv fv av : Value) (w : World) (h : StIn w w.heap.size s wv fv av) (hi : StI s) :
    Calls Tryz.prog 17 #[.agg (stC s wv fv av).toArray] w fun e w' => e = .returned (.bool (rightB s)) ∧ Below w.heap.size w w' := by
  have HIN := Lib.hid h
  have HI := Lib.hid hi
  obtain ⟨a1, k1, e1, _⟩ := h.1.form
  obtain ⟨a2, k2, e2, _⟩ := h.2.1.form
  obtain ⟨a3, k3, e3, _⟩ := h.2.2
  generalize s.win.length = n1 at *
  generalize s.forest.length = n2 at *
  generalize s.alerts.length = n3 at *
  subst e1 e2 e3
  have h7 : s.cf.c7 ≤ 9223372036854775807 := hi.1.2.2.2
  have HSR := Lib.hid (fun W => SRight_any s.cf h7 W)
  have HRB := Lib.hid (show rightB s = (confB s.cf && decide (cnt s.count) && windowB s && treesB s && alertsB s) from rfl)
  have HNX := Lib.hid (fun W (hc : confOk s.cf) => Next_ok s.cf 0 hc (by decide) W)
  have HW := Lib.hid (fun (hc : confOk s.cf) (hn : cnt s.count) W (hw : Below w.heap.size w W) => (show Calls Tryz.prog 39 #[.agg (lkC s (.slice a1 n1 k1) (.slice a2 n2 k2) (.slice a3 n3 k3) (nextC s.cf 0)).toArray] W fun e w' => e = .returned (.bool (windowB s)) ∧ Below W.heap.size W w' from
    window_any s _ _ _ (nextC s.cf 0) W (HIN.out.up hw).1 hi.2.2.2.2.1 ⟨⟨_, _, _, rfl⟩, _, _, _, rfl⟩ (by unfold confOk at hc; omega) hn))
  have HT := Lib.hid (fun (hc : confOk s.cf) (hn : cnt s.count) W (hw : Below w.heap.size w W) => trees_any s (.slice a1 n1 k1) (.slice a2 n2 k2) (.slice a3 n3 k3) (nextC s.cf 0) W (HIN.out.up hw).2.1 ⟨⟨_, _, _, rfl⟩, _, _, _, rfl⟩ hc hn)
  have HA := Lib.hid (fun (hc : confOk s.cf) (hn : cnt s.count) W (hw : Below w.heap.size w W) => alerts_any s (.slice a1 n1 k1) (.slice a2 n2 k2) (.slice a3 n3 k3) (nextC s.cf 0) W (HIN.out.up hw).2.2 hi.2.2.2.2.2.2 ⟨⟨_, _, _, rfl⟩, _, _, _, rfl⟩ (by unfold confOk at hc; omega) hn hi.2.2.2.1)
  unfold lkC stC at HW HT HA
  unfold stC
  obtain ⟨wb, hwb⟩ : ∃ b, windowB s = b := ⟨_, rfl⟩
  obtain ⟨tb, htb⟩ : ∃ b, treesB s = b := ⟨_, rfl⟩
  obtain ⟨ab, hab⟩ : ∃ b, alertsB s = b := ⟨_, rfl⟩
  rw [hwb] at HW
  rw [htb] at HT
  rw [hab] at HA
  rw [hwb, htb, hab] at HRB
  obtain ⟨R, hR⟩ : ∃ R, rightB s = R := ⟨_, rfl⟩
  rw [hR] at HRB ⊢
  obtain ⟨cf, count, last, seq, win, forest, alerts⟩ := s
  dsimp only at HSR HRB HNX HW HT HA ⊢
  obtain ⟨f, hq⟩ : ∃ q, nextC cf 0 = q := ⟨_, rfl⟩
  rw [hq] at HNX HW HT HA
  obtain ⟨cb, hcb⟩ : ∃ b, confB cf = b := ⟨_, rfl⟩
  rw [hcb] at HSR HRB
  have HCB := Lib.hid (show cb = true → confOk cf from fun h => of_decide_eq_true (hcb.trans h))
  clear hq hcb h7 h hi hwb htb hab hR HI HIN
  have HCC := Lib.hid (show cb = true → (∀ W, Calls Tryz.prog 38 #[.agg (CfM.cfC cf).toArray, .int .i64 0] W fun e w' => e = .returned (.tuple #[.int .i64 f, .int .i64 0]) ∧ Below W.heap.size W w') from fun h W => HNX.out W (HCB.out h))
  replace HW := Lib.hid (fun (h : cb = true) => HW.out (HCB.out h))
  replace HT := Lib.hid (fun (h : cb = true) => HT.out (HCB.out h))
  replace HA := Lib.hid (fun (h : cb = true) => HA.out (HCB.out h))
  clear HNX HCB
  obtain ⟨c0, c1, c2, c3, c4, c5, c6, c7, c8, c9, c10⟩ := cf
  unfold CfM.cfC at HSR HCC HW HT HA ⊢
  dsimp only [List.cons_append, List.nil_append] at HSR HCC HW HT HA ⊢
  obtain ⟨W, eW⟩ : ∃ W, w.alloc (.cells #[.int .i64 c0, .int .i64 c1, .int .i64 c2, .int .i64 c3, .int .i64 c4, .int .i64 c5, .int .i64 c6, .int .i64 c7, .int .i64 c8, .int .i64 c9, .int .i64 c10, .int .i64 count, .int .i64 last, .int .i64 seq, .slice a1 n1 k1, .slice a2 n2 k2, .slice a3 n3 k3] 28) = W := ⟨_, rfl⟩
  have HB := Lib.hid (show Below w.heap.size w W by rw [← eW]; exact below_a1 _ _)
  have HCS := Lib.hid (show ∀ W' : World, Below W.heap.size W W' → (W'.cell? ⟨w.heap.size, 0, none⟩ = some (.int .i64 c0) ∧ W'.cell? ⟨w.heap.size, 1, none⟩ = some (.int .i64 c1) ∧ W'.cell? ⟨w.heap.size, 2, none⟩ = some (.int .i64 c2) ∧ W'.cell? ⟨w.heap.size, 3, none⟩ = some (.int .i64 c3) ∧ W'.cell? ⟨w.heap.size, 4, none⟩ = some (.int .i64 c4) ∧ W'.cell? ⟨w.heap.size, 5, none⟩ = some (.int .i64 c5) ∧ W'.cell? ⟨w.heap.size, 6, none⟩ = some (.int .i64 c6) ∧ W'.cell? ⟨w.heap.size, 7, none⟩ = some (.int .i64 c7) ∧ W'.cell? ⟨w.heap.size, 8, none⟩ = some (.int .i64 c8) ∧ W'.cell? ⟨w.heap.size, 9, none⟩ = some (.int .i64 c9) ∧ W'.cell? ⟨w.heap.size, 10, none⟩ = some (.int .i64 c10) ∧ W'.cell? ⟨w.heap.size, 11, none⟩ = some (.int .i64 count) ∧ W'.cell? ⟨w.heap.size, 12, none⟩ = some (.int .i64 last) ∧ W'.cell? ⟨w.heap.size, 13, none⟩ = some (.int .i64 seq) ∧ W'.cell? ⟨w.heap.size, 14, none⟩ = some (.slice a1 n1 k1) ∧ W'.cell? ⟨w.heap.size, 15, none⟩ = some (.slice a2 n2 k2) ∧ W'.cell? ⟨w.heap.size, 16, none⟩ = some (.slice a3 n3 k3)) by
    intro W' hb
    subst eW
    refine ⟨keepA hb ?_, keepA hb ?_, keepA hb ?_, keepA hb ?_, keepA hb ?_, keepA hb ?_, keepA hb ?_, keepA hb ?_, keepA hb ?_, keepA hb ?_, keepA hb ?_, keepA hb ?_, keepA hb ?_, keepA hb ?_, keepA hb ?_, keepA hb ?_, keepA hb ?_⟩ <;> go_simp)
  obtain ⟨d0, d1, d2, d3, d4, d5, d6, d7, d8, d9, d10, d11, d12, d13, d14, d15, d16⟩ := HCS.out W (Below.refl _ _)
  go_enter Tryz.func17, Tryz.ntmps17
  go_wp2_with fail
  refine (HSR.out _).mono ?_
  rintro e w1 ⟨rfl, hb1⟩
  have HB1 := Lib.hid hb1
  clear d0 d1 d2 d3 d4 d5 d6 d7 d8 d9 d10 d11 d12 d13 d14 d15 d16 hb1
  obtain ⟨d0, d1, d2, d3, d4, d5, d6, d7, d8, d9, d10, d11, d12, d13, d14, d15, d16⟩ := HCS.out w1 HB1.out
  cases cb
  · have F := Lib.hid (show R = false by rw [HRB.out]; simp)
    go_wp2_with fail
    go_ret
    exact ⟨by rw [F.out]; rfl, bt HB1.out HB.out⟩
  by_cases q1 : count < 0
  · have F := Lib.hid (show R = false by rw [HRB.out, decide_eq_false (fun h => by unfold cnt at h; omega)]; simp)
    go_wp2_with fail
    go_ret
    exact ⟨by rw [F.out]; rfl, bt HB1.out HB.out⟩
  by_cases q2 : 1099511627776 < count
  · have F := Lib.hid (show R = false by rw [HRB.out, decide_eq_false (fun h => by unfold cnt at h; omega)]; simp)
    go_wp2_with fail
    go_ret
    exact ⟨by rw [F.out]; rfl, bt HB1.out HB.out⟩
  have hcn : cnt count := ⟨by omega, by omega⟩
  have HCN := Lib.hid hcn
  have HRR := Lib.hid (show R = (wb && tb && ab) by rw [HRB.out, decide_eq_true hcn]; simp)
  clear HRB hcn
  go_wp2_with fail
  refine (HCC.out (by first | rfl | trivial) _).mono ?_
  rintro e w2 ⟨rfl, hb2⟩
  have HB2 := Lib.hid (bt hb2 HB1.out)
  clear d0 d1 d2 d3 d4 d5 d6 d7 d8 d9 d10 d11 d12 d13 d14 d15 d16 hb2 q1 q2
  obtain ⟨d0, d1, d2, d3, d4, d5, d6, d7, d8, d9, d10, d11, d12, d13, d14, d15, d16⟩ := HCS.out w2 HB2.out
  have HSB := Lib.hid (show w2.heap[w.heap.size]? = some (.cells #[.int .i64 c0, .int .i64 c1, .int .i64 c2, .int .i64 c3, .int .i64 c4, .int .i64 c5, .int .i64 c6, .int .i64 c7, .int .i64 c8, .int .i64 c9, .int .i64 c10, .int .i64 count, .int .i64 last, .int .i64 seq, .slice a1 n1 k1, .slice a2 n2 k2, .slice a3 n3 k3] 28 (0, 0)) by
    rw [bt2 HB2.out (by rw [← eW]; simp)]
    rw [← eW]
    exact heap_alloc_new w _)
  go_wp2_with (first
    | (refine (id ?_ : wpList _ _ _ (⟨some 28, .load _ _, _, _, _, _⟩ :: _) _ _)
       refine wpList_load_row rfl 28 (.tmp 1) rfl w.heap.size (by rfl) _ _ _ _ HSB.out Tryz.underlying28 rfl (by kernel_rfl) ?_)
    | (refine (id ?_ : wpList _ _ _ (⟨none, .store _ _ _, _, _, _, _⟩ :: _) _ _)
       refine wpList_store_row rfl 84 (.tmp 5) (.tmp 30) rfl w2.heap.size _ (by rfl) (by rfl) 84 _ (heap_alloc_new w2 _) (by kernel_rfl) (by rfl) (all_one _ (by rfl)) ?_
       generalize hX : World.setRow _ _ _ = X
       have hg : X.heap[w2.heap.size]? = some (.cells #[.int .i64 c0, .int .i64 c1, .int .i64 c2, .int .i64 c3, .int .i64 c4, .int .i64 c5, .int .i64 c6, .int .i64 c7, .int .i64 c8, .int .i64 c9, .int .i64 c10, .int .i64 count, .int .i64 last, .int .i64 seq, .slice a1 n1 k1, .slice a2 n2 k2, .slice a3 n3 k3, .int .i64 f] 84 (0, 0)) := by rw [← hX]; exact setRow_heap _ _ _ _ _ _ (heap_alloc_new w2 _)
       have hb : Below w2.heap.size w2 X := by rw [← hX]; exact below_setRow (below_a1 w2 _) (Nat.le_refl _) _
       have HBX := Lib.hid hb
       have HXB := Lib.hid hg
       have HXL := Lib.hid (Array.getElem?_eq_some_iff.1 hg).1
       clear hb hg hX))
  clear d0 d1 d2 d3 d4 d5 d6 d7 d8 d9 d10 d11 d12 d13 d14 d15 d16 eW
  have HXW := Lib.hid (show Below w.heap.size w X from bt (bt HBX.out HB2.out) HB.out)
  go_loopw [32] (fun i wr => ∃ k : Nat, k ≤ 3 ∧ i = .int .i64 k ∧ (1 ≤ k → wb = true) ∧ (2 ≤ k → tb = true) ∧ (3 ≤ k → ab = true) ∧ Below X.heap.size X wr) (fun i _ => 3 - (intOf i).toNat)
  case atStart => exact ⟨0, by omega, rfl, fun h => by omega, fun h => by omega, fun h => by omega, Below.refl _ _⟩
  case round =>
    obtain ⟨k, hk, rfl, g1, g2, g3, hb⟩ := hrel
    have HBR := Lib.hid hb
    have HG := Lib.hid (And.intro g1 (And.intro g2 g3))
    clear hb g1 g2 g3
    have HXR := Lib.hid ((HBR.out.block w2.heap.size HXL.out).trans HXB.out)
    by_cases hlt : k < 3
    · rcases (show k = 0 ∨ k = 1 ∨ k = 2 by omega) with h0 | h0 | h0
      · have hix : ∀ W, (Instr.index 86 (Value.agg #[Value.func (Fn.func 39) #[] #[], Value.func (Fn.func 40) #[] #[], Value.func (Fn.func 41) #[] #[]]) (.int .i64 (k : Int))).run Tryz.prog W = .ok (Value.func (Fn.func 39) #[] #[]) W := by rw [h0]; exact idx0
        have H0 := Lib.hid h0
        clear h0
        go_wp2_with (refine (id ?_ : wpList _ _ _ (⟨some 36, .load _ _, _, _, _, _⟩ :: _) _ _); refine wpList_load_row rfl 84 (.tmp 5) rfl w2.heap.size (by rfl) _ _ _ _ HXR.out Tryz.underlying84 rfl (by kernel_rfl) ?_)
        refine (HW.out (by first | rfl | trivial) HCN.out _ (bt HBR.out HXW.out)).mono ?_
        rintro e w4 ⟨rfl, hb4⟩
        have HB4 := Lib.hid (bt hb4 HBR.out)
        clear hb4 hix
        cases wb
        · have F := Lib.hid (show R = false by rw [HRR.out]; simp)
          go_wp2_with fail
          go_ret
          exact ⟨by rw [F.out]; rfl, bt HB4.out HXW.out⟩
        · go_wp2_with fail
          exact ⟨⟨k + 1, by omega, by go_num, (fun h => by first | rfl | trivial), (fun h => by have := H0.out; omega), (fun h => by have := H0.out; omega), HB4.out⟩, by simp [intOf]; omega⟩
      · have hix : ∀ W, (Instr.index 86 (Value.agg #[Value.func (Fn.func 39) #[] #[], Value.func (Fn.func 40) #[] #[], Value.func (Fn.func 41) #[] #[]]) (.int .i64 (k : Int))).run Tryz.prog W = .ok (Value.func (Fn.func 40) #[] #[]) W := by rw [h0]; exact idx1
        have H0 := Lib.hid h0
        clear h0
        go_wp2_with (refine (id ?_ : wpList _ _ _ (⟨some 36, .load _ _, _, _, _, _⟩ :: _) _ _); refine wpList_load_row rfl 84 (.tmp 5) rfl w2.heap.size (by rfl) _ _ _ _ HXR.out Tryz.underlying84 rfl (by kernel_rfl) ?_)
        refine (HT.out (by first | rfl | trivial) HCN.out _ (bt HBR.out HXW.out)).mono ?_
        rintro e w4 ⟨rfl, hb4⟩
        have HB4 := Lib.hid (bt hb4 HBR.out)
        clear hb4 hix
        cases tb
        · have F := Lib.hid (show R = false by rw [HRR.out]; simp)
          go_wp2_with fail
          go_ret
          exact ⟨by rw [F.out]; rfl, bt HB4.out HXW.out⟩
        · go_wp2_with fail
          exact ⟨⟨k + 1, by omega, by go_num, (fun h => HG.out.1 (by have := H0.out; omega)), (fun h => by first | rfl | trivial), (fun h => by have := H0.out; omega), HB4.out⟩, by simp [intOf]; omega⟩
      · have hix : ∀ W, (Instr.index 86 (Value.agg #[Value.func (Fn.func 39) #[] #[], Value.func (Fn.func 40) #[] #[], Value.func (Fn.func 41) #[] #[]]) (.int .i64 (k : Int))).run Tryz.prog W = .ok (Value.func (Fn.func 41) #[] #[]) W := by rw [h0]; exact idx2
        have H0 := Lib.hid h0
        clear h0
        go_wp2_with (refine (id ?_ : wpList _ _ _ (⟨some 36, .load _ _, _, _, _, _⟩ :: _) _ _); refine wpList_load_row rfl 84 (.tmp 5) rfl w2.heap.size (by rfl) _ _ _ _ HXR.out Tryz.underlying84 rfl (by kernel_rfl) ?_)
        refine (HA.out (by first | rfl | trivial) HCN.out _ (bt HBR.out HXW.out)).mono ?_
        rintro e w4 ⟨rfl, hb4⟩
        have HB4 := Lib.hid (bt hb4 HBR.out)
        clear hb4 hix
        cases ab
        · have F := Lib.hid (show R = false by rw [HRR.out]; simp)
          go_wp2_with fail
          go_ret
          exact ⟨by rw [F.out]; rfl, bt HB4.out HXW.out⟩
        · go_wp2_with fail
          exact ⟨⟨k + 1, by omega, by go_num, (fun h => HG.out.1 (by have := H0.out; omega)), (fun h => HG.out.2.1 (by have := H0.out; omega)), (fun h => by first | rfl | trivial), HB4.out⟩, by simp [intOf]; omega⟩
    · have F := Lib.hid (show R = true by rw [HRR.out, HG.out.1 (by omega), HG.out.2.1 (by omega), HG.out.2.2 (by omega)]; rfl)
      obtain rfl : k = 3 := by omega
      go_wp2_with fail
      go_ret
      exact ⟨by rw [F.out]; rfl, bt HBR.out HXW.out⟩
end Go.Proofs.YtcaeihfgdlffkaaGreatRRRRDoor.StrW

/- What a state's window is like, walked: report.Of at whatever state. -/
namespace Go.Proofs.YtcaeihfgdlffkaaGreatRRRRDoor.OfsW
set_option linter.unusedVariables false
set_option linter.unusedSimpArgs false
open Go.RowKit Base SeqM CfM StM StV RptO RptC ClsW ColW LevM LevW VecW DevW OfeW RtxM ScoX
open StrW (Right_any)

theorem eltP : Elt Tryz.prog 44 32 (.slice none 0 0) 1 24 := elt_mk (z := .slice none 0 0) Tryz.underlying44 (by kernel_rfl) rfl (by omega) (by omega)
theorem eltS : Elt Tryz.prog 56 55 (.agg #[.int .i64 0, .int .i64 0]) 2 16 := elt_mk (z := .agg #[.int .i64 0, .int .i64 0]) Tryz.underlying56 (by kernel_rfl) rfl (by omega) (by omega)
theorem past2 {wr w4 w5 : World} {base : Nat} {e : TypeId} {size n : Nat} {v : Value} {xs : List Value} (h : wr.ownsRow base e size v n xs) (hg : w4.grownBy w5 v.ownBlock) {j : Nat} (h1 : wr.heap.size ≤ j) (h2 : j < w4.heap.size) (i : Nat) (u : Value)
    (hc : w4.cell? ⟨j, i, none⟩ = some u) : w5.cell? ⟨j, i, none⟩ = some u := past h hg h1 h2 i u hc
/-- the vectors' values, one a cell -/
def vxC (r : Value × Sn) : List Value := [r.1]
def PsRel (rs : List (Value × Sn)) (X : World) (p s i : Value) (wr : World) : Prop := ∃ (k m cap1 cap2 : Nat) (A1 A2 : Option Addr), k ≤ rs.length ∧ i = .int .i64 (k : Int) ∧ p = .slice A1 k cap1 ∧ s = .slice A2 m cap2 ∧ m ≤ k ∧
  wr.ownsRow X.heap.size 32 1 (.slice A1 k cap1) k ((rs.take k).flatMap vxC) ∧ wr.ownsRow X.heap.size 55 2 (.slice A2 m cap2) m ((scoL ((rs.take k).map (·.2))).flatMap scC) ∧ m = (scoL ((rs.take k).map (·.2))).length ∧ Below X.heap.size X wr
theorem vecs_of {w : World} {base : Nat} {v : Value} {rs : List (Value × Sn)} (h : w.ownsRow base 32 1 v rs.length (rs.flatMap vxC)) (hx : ∀ r ∈ rs, Seq 1 inC w 0 w.heap.size r.1 r.2.xs) : Vecs w 0 w.heap.size v (ptsL (rs.map (·.2))) := by
  refine ⟨rs.map (fun r => (r.1, r.2.xs)), by unfold ptsL; rw [List.map_map, List.map_map]; rfl, ?_, fun r hr => ?_⟩
  · have e : rs.flatMap vxC = (rs.map (fun r => (r.1, r.2.xs))).flatMap vcC := by rw [List.flatMap_map]; rfl
    rw [e] at h
    refine (Seq.of_own (base := base) (e := 32) (f := vcC) (l := rs.map (fun r => (r.1, r.2.xs))) ?_).more (Nat.zero_le _) (Nat.le_refl _)
    rw [List.length_map]
    exact h
  · obtain ⟨y, hy, rfl⟩ := List.mem_map.1 hr
    exact hx y hy
def RpIn (w : World) (r : Rp) (u1 u2 : Value) : Prop := Seq 6 colC w 0 w.heap.size u1 r.cols ∧ Seq 1 inC w 0 w.heap.size u2 r.levs
def OsPost (s : St) (w : World) (e : Ending) (w' : World) : Prop := (∃ u1 u2, e = .returned (.tuple #[.agg #[.int .i64 (repL s).ev, u1, u2], .int .i64 (repE s)]) ∧ RpIn w' (repL s) u1 u2) ∧ Below w.heap.size w w'
set_option maxHeartbeats 8000000 in
set_option maxRecDepth 100000 in
theorem Of_any (s : St) (wv fv av : Value) (w : World) (h : StIn w w.heap.size s wv fv av) (hi : StI s) :
    Calls Tryz.prog 6 #[.agg (stC s wv fv av).toArray] w (OsPost s w) := by
  have HR := Lib.hid (fun W (hw : Below w.heap.size w W) => Right_any s wv fv av W (h.up hw) hi)
  have HYES := Lib.hid (fun (h : rightB s = true) => And.intro (rep_yes h) (right_win h))
  have HNO := Lib.hid (fun (h : rightB s = false) => rep_no h)
  have HFI := Lib.hid (show Fits2 (scoL s.win) from fun y hy => by obtain ⟨x, hx, _, rfl⟩ := scoL_mem hy; exact (hi.2.2.2.2.1 x hx).2)
  obtain ⟨rs, hrs, hsq, hxs⟩ := h.1
  have HXS := Lib.hid hxs
  obtain ⟨a1, k1, e1, hk1, hk1b, hrd, _⟩ := hsq
  obtain ⟨a2, k2, e2, _⟩ := h.2.1.form
  obtain ⟨a3, k3, e3, _⟩ := h.2.2
  unfold maxLen at hk1b
  have HRD := Lib.hid hrd
  have HRS := Lib.hid hrs
  unfold OsPost
  generalize repL s = RP at *
  generalize repE s = RE at *
  generalize s.forest.length = n2 at *
  generalize s.alerts.length = n3 at *
  subst e1 e2 e3
  obtain ⟨n, hn⟩ : ∃ n, rs.length = n := ⟨_, rfl⟩
  have HN := Lib.hid hn
  rw [hn] at hk1 HR ⊢
  obtain ⟨⟨c0, c1, c2, c3, c4, c5, c6, c7, c8, c9, c10⟩, count, last, seq, win, forest, alerts⟩ := s
  generalize rightB ⟨⟨c0, c1, c2, c3, c4, c5, c6, c7, c8, c9, c10⟩, count, last, seq, win, forest, alerts⟩ = RB at *
  unfold stC at HR ⊢
  unfold CfM.cfC at HR ⊢
  dsimp only [List.cons_append, List.nil_append] at HR HYES HNO HFI hrs HRS ⊢
  subst hrs
  clear h hi hxs hrd hn
  obtain ⟨W0, eW0⟩ : ∃ W, w.alloc (.cells #[.int .i64 c0, .int .i64 c1, .int .i64 c2, .int .i64 c3, .int .i64 c4, .int .i64 c5, .int .i64 c6, .int .i64 c7, .int .i64 c8, .int .i64 c9, .int .i64 c10, .int .i64 count, .int .i64 last, .int .i64 seq, .slice a1 n k1, .slice a2 n2 k2, .slice a3 n3 k3] 28) = W := ⟨_, rfl⟩
  have HB0 := Lib.hid (show Below w.heap.size w W0 by rw [← eW0]; exact below_a1 _ _)
  have HSB0 := Lib.hid (show W0.heap[w.heap.size]? = some (.cells #[.int .i64 c0, .int .i64 c1, .int .i64 c2, .int .i64 c3, .int .i64 c4, .int .i64 c5, .int .i64 c6, .int .i64 c7, .int .i64 c8, .int .i64 c9, .int .i64 c10, .int .i64 count, .int .i64 last, .int .i64 seq, .slice a1 n k1, .slice a2 n2 k2, .slice a3 n3 k3] 28 (0, 0)) by rw [← eW0]; exact heap_alloc_new w _)
  have HZ0 := Lib.hid (show W0.heap.size = w.heap.size + 1 by rw [← eW0]; simp)
  obtain ⟨W, eW⟩ : ∃ W, W0.alloc (.cells #[.int .i64 0, .slice none 0 0, .slice none 0 0] 34) = W := ⟨_, rfl⟩
  have HB := Lib.hid (show Below w.heap.size w W by rw [← eW]; exact HB0.out.alloc HB0.out.size _)
  have HSB := Lib.hid (show ∀ W', Below W.heap.size W W' → W'.heap[w.heap.size]? = some (.cells #[.int .i64 c0, .int .i64 c1, .int .i64 c2, .int .i64 c3, .int .i64 c4, .int .i64 c5, .int .i64 c6, .int .i64 c7, .int .i64 c8, .int .i64 c9, .int .i64 c10, .int .i64 count, .int .i64 last, .int .i64 seq, .slice a1 n k1, .slice a2 n2 k2, .slice a3 n3 k3] 28 (0, 0)) by
    intro W' hb
    rw [hb.block _ (by rw [← eW]; have := HZ0.out; simp; omega), ← eW, Below.heap_alloc _ _ _ (by have := HZ0.out; omega)]
    exact HSB0.out)
  have HRB := Lib.hid (show ∀ W', Below W.heap.size W W' → ((W'.cell? ⟨W0.heap.size, 0, none⟩ = some (.int .i64 0) ∧ W'.cell? ⟨W0.heap.size, 1, none⟩ = some (.slice none 0 0) ∧ W'.cell? ⟨W0.heap.size, 2, none⟩ = some (.slice none 0 0)) ∧ W'.frozen? ⟨W0.heap.size, 0, none⟩ = false ∧ W'.frozen? ⟨W0.heap.size, 1, none⟩ = false ∧ W'.frozen? ⟨W0.heap.size, 2, none⟩ = false) by
    intro W' hb
    have hz : W0.heap.size < W.heap.size := by rw [← eW]; simp
    refine ⟨⟨keepA hb ?_, keepA hb ?_, keepA hb ?_⟩, (hb.frozen (p := ⟨W0.heap.size, 0, none⟩) hz).trans ?_, (hb.frozen (p := ⟨W0.heap.size, 1, none⟩) hz).trans ?_, (hb.frozen (p := ⟨W0.heap.size, 2, none⟩) hz).trans ?_⟩ <;> (rw [← eW]; clear eW; go_simp))
  have l2 : w.heap.size ≤ W0.heap.size := HB0.out.size
  have hWW0 : W0.heap.size < W.heap.size := by rw [← eW]; simp
  have HW0 := Lib.hid hWW0
  go_enter Tryz.func6, Tryz.ntmps6
  go_wp2_with (refine (id ?_ : wpList _ _ _ (⟨some 9, .load _ _, _, _, _, _⟩ :: _) _ _); refine wpList_load_row rfl 28 (.tmp 1) rfl w.heap.size (by rfl) _ _ _ _ (HSB.out W (Below.refl _ _)) Tryz.underlying28 rfl (by kernel_rfl) ?_)
  refine (HR.out _ HB.out).mono ?_
  rintro e w1 ⟨rfl, hb1⟩
  have HB1 := Lib.hid hb1
  have hz1 : w.heap.size < w1.heap.size := (Array.getElem?_eq_some_iff.1 (HSB.out w1 hb1)).1
  have hz2 : W0.heap.size < w1.heap.size := Nat.lt_of_lt_of_le hWW0 hb1.size
  have HZ := Lib.hid (And.intro hz1 hz2)
  have st : ∀ (Y : World) (b j : Nat) (u : Value), w.heap.size ≤ b → Below w.heap.size w Y → Below w.heap.size w (Y.setCell ⟨b, j, none⟩ u) := fun Y b j u hb h => h.setCell (p := ⟨b, j, none⟩) hb u
  have HST := Lib.hid st
  cases RB
  · obtain ⟨erp, ere⟩ := HNO.out rfl
    subst erp ere
    obtain ⟨⟨r0, r1, r2⟩, q0, q1, q2⟩ := HRB.out w1 hb1
    clear hb1 st
    go_wp2
    refine bodyPost_ret (v := .tuple #[.agg #[.int .i64 0, .slice none 0 0, .slice none 0 0], .int .i64 280]) (by simp [results, Tryz.results6, go_sem, *]) rfl ?_
    exact ⟨⟨_, _, rfl, Seq.nil_, Seq.nil_⟩, HST.out _ _ _ _ l2 (HST.out _ _ _ _ l2 (HST.out _ _ _ _ l2 (HB.out.trans (HB1.out.mono HB.out.size))))⟩
  · obtain ⟨⟨erp, ere⟩, hcf, hn256⟩ := HYES.out rfl
    rw [List.length_map, HN.out] at hn256
    subst ere
    have hc3 : 2 ≤ c3 ∧ c3 ≤ 64 := by unfold confOk at hcf; dsimp only at hcf; omega
    have HRP := Lib.hid erp
    clear erp hcf
    have s14 : w1.cell? ⟨w.heap.size, 14, none⟩ = some (.slice a1 n k1) := by rw [cell_of_row _ _ _ _ _ _ (HSB.out w1 hb1)]; rfl
    clear hb1 st
    go_wp2_with fail
    generalize eX : w1.alloc (.cells #[.int .i64 (n : Int), .slice none 0 0, .slice none 0 0] 34) = X at *
    have HBX := Lib.hid (show Below w1.heap.size w1 X by rw [← eX]; exact below_a1 _ _)
    have HBXW := Lib.hid (show Below W.heap.size W X from bt HBX.out HB1.out)
    have HZX := Lib.hid (show w1.heap.size < X.heap.size by rw [← eX]; simp)
    have HXC := Lib.hid (show ∀ W', Below X.heap.size X W' → ((W'.cell? ⟨w1.heap.size, 0, none⟩ = some (.int .i64 (n : Int)) ∧ W'.cell? ⟨w1.heap.size, 1, none⟩ = some (.slice none 0 0) ∧ W'.cell? ⟨w1.heap.size, 2, none⟩ = some (.slice none 0 0)) ∧ W'.frozen? ⟨w1.heap.size, 0, none⟩ = false ∧ W'.frozen? ⟨w1.heap.size, 1, none⟩ = false ∧ W'.frozen? ⟨w1.heap.size, 2, none⟩ = false) by
      intro W' hb
      have hz : w1.heap.size < X.heap.size := HZX.out
      refine ⟨⟨keepA hb ?_, keepA hb ?_, keepA hb ?_⟩, (hb.frozen (p := ⟨w1.heap.size, 0, none⟩) hz).trans ?_, (hb.frozen (p := ⟨w1.heap.size, 1, none⟩) hz).trans ?_, (hb.frozen (p := ⟨w1.heap.size, 2, none⟩) hz).trans ?_⟩ <;> (rw [← eX]; clear eX; go_simp))
    have x14 : X.cell? ⟨w.heap.size, 14, none⟩ = some (.slice a1 n k1) := keepA HBX.out s14
    clear s14 eX
    go_wp2_with fail
    go_loopw [5, 6, 20] (fun p s i wr => PsRel rs X p s i wr) (fun _ _ i _ => n - (intOf i).toNat)
    case atStart => exact ⟨0, 0, 0, 0, none, none, Nat.zero_le _, rfl, rfl, rfl, Nat.le_refl _, World.ownsRow_nil _ _ _ _, World.ownsRow_nil _ _ _ _, rfl, Below.refl _ _⟩
    case round =>
      obtain ⟨k, m, cap1, cap2, A1, A2, hk, rfl, rfl, rfl, hmk, hop, hos, hml, hbr⟩ := hrel
      rw [HN.out] at hk
      have HP := Lib.hid hop
      have HS := Lib.hid hos
      have HBR := Lib.hid hbr
      have HML := Lib.hid hml
      have HBRW := Lib.hid (bt hbr HBXW.out)
      have HBRw := Lib.hid (bt HBRW.out HB.out)
      have hXr := hbr.size
      clear x14 hop hos hml
      by_cases hlt : k < n
      · obtain ⟨ad, y, rfl, _, hbk, hy, hcs⟩ := rdk snC_len (HRD.out.below HBRw.out) (i := k) (by rw [HN.out]; exact hlt)
        obtain ⟨XA, xc, hxf, hxc1, hxc2, _, _⟩ := HXS.out y (List.mem_of_getElem? hy)
        unfold maxLen at hxc2
        obtain ⟨xv, id, xs, p, q, sc⟩ := y
        dsimp only at hxf hcs
        subst hxf
        obtain ⟨xn, hxn⟩ : ∃ xn, xs.length = xn := ⟨_, rfl⟩
        rw [hxn] at hcs hxc1
        have HTK := Lib.hid (take_next hy)
        rw [hxn] at HTK
        have g0 : wr.cell? (ad.add (k * 5)) = some (.int .i64 id) := hcs 0 _ rfl
        have gf : ∀ j u, (snC (.slice XA xn xc, ⟨id, xs, p, q, sc⟩))[j]? = some u → j ≠ 0 → wr.cell? ⟨(ad.add (k * 5)).block, (ad.add (k * 5)).off + j, none⟩ = some u := fun j u hu hj => by rw [add_off _ _ _ hj]; exact hcs j u hu
        have g1 := gf 1 _ rfl (by decide)
        have g2 := gf 2 _ rfl (by decide)
        have g3 := gf 3 _ rfl (by decide)
        have g4 := gf 4 _ rfl (by decide)
        dsimp only at g1 g2 g3 g4
        have hk1' : k < 1073741824 := by omega
        have HK := Lib.hid (And.intro hk1' hmk)
        clear gf hcs hxn hbr hxc1 hy hmk
        obtain ⟨X2, eX2⟩ : ∃ X2, wr.alloc (.cells #[.int .i64 id, .slice XA xn xc, .int .i64 p, .int .i64 q, .bool sc] 59) = X2 := ⟨_, rfl⟩
        have HBX2 := Lib.hid (show Below wr.heap.size wr X2 by rw [← eX2]; exact below_a1 _ _)
        have HX2Z := Lib.hid (show wr.heap.size < X2.heap.size by rw [← eX2]; simp)
        have x1 : X2.cell? ⟨wr.heap.size, 1, none⟩ = some (.slice XA xn xc) := by rw [← eX2]; clear eX2; go_simp
        have x2 : X2.cell? ⟨wr.heap.size, 2, none⟩ = some (.int .i64 p) := by rw [← eX2]; clear eX2; go_simp
        have x3 : X2.cell? ⟨wr.heap.size, 3, none⟩ = some (.int .i64 q) := by rw [← eX2]; clear eX2; go_simp
        have x4 : X2.cell? ⟨wr.heap.size, 4, none⟩ = some (.bool sc) := by rw [← eX2]; clear eX2; go_simp
        have HP2 := Lib.hid (own_below HP.out HBX2.out)
        have HS2 := Lib.hid (own_below HS.out HBX2.out)
        have HBRX := Lib.hid (show Below X.heap.size X X2 from bt HBX2.out HBR.out)
        have HX234 := Lib.hid (And.intro x2 (And.intro x3 x4))
        clear x2 x3 x4
        have HNX := Lib.hid (show scoL ((rs.take (k + 1)).map (·.2)) = scoL ((rs.take k).map (·.2)) ++ (if sc = true then [(p, q)] else []) by
          rw [HTK.out, List.map_append, List.map_cons, List.map_nil, sco_snoc])
        have HPC := Lib.hid (show (rs.take (k + 1)).flatMap vxC = (rs.take k).flatMap vxC ++ [.slice XA xn xc] by
          rw [HTK.out, List.flatMap_append]; rfl)
        rcases Bool.eq_false_or_eq_true sc with hsc | hsc
        rotate_left
        · have HE := Lib.hid (show scoL ((rs.take (k + 1)).map (·.2)) = scoL ((rs.take k).map (·.2)) by rw [HNX.out, hsc]; simp)
          have HSV := Lib.hid hsc
          clear hsc
          go_wp2_with (
            at_builtin
            refine listS rfl (.tmp 24) (.tmp 27) _ rfl eltP X.heap.size X2.heap.size _ _ k 1 _ _ rfl (HP2.out.alloc _) rfl (own_one X2 #[.slice XA xn xc] _ 1 rfl) (by simp [Value.oneCell']) (by omega) (by have := HK.out.1; omega) (by have := HBRX.out.size; simp; omega) ?_
            intro o3 w3 hown3 hg3
            have HP3 := Lib.hid hown3
            have HBA := Lib.hid (show Below X.heap.size X w3 from below_own (HBRX.out.alloc HBRX.out.size _) (HP2.out.alloc _) hg3 (Nat.le_refl _) (by have := HBRX.out.size; simp; omega))
            have HS3 := Lib.hid (show w3.ownsRow X.heap.size 55 2 (.slice A2 m cap2) m _ from own_keep (HS2.out.alloc _) fun k hk ht => grown_keep (HP2.out.alloc _) hg3 (by decide) hk ht)
            have hzz : wr.heap.size < (X2.alloc (.cells #[.slice XA xn xc] 32)).heap.size := by have := HX2Z.out; simp; omega
            have b2 := past2 HP.out hg3 (Nat.le_refl _) hzz 2 _ (keepA (below_a1 X2 _) HX234.out.1)
            have b3 := past2 HP.out hg3 (Nat.le_refl _) hzz 3 _ (keepA (below_a1 X2 _) HX234.out.2.1)
            have b4 := past2 HP.out hg3 (Nat.le_refl _) hzz 4 _ (keepA (below_a1 X2 _) HX234.out.2.2)
            rw [HSV.out] at b4
            clear hown3 hg3 hzz x1
            obtain ⟨g6, cap6, e6, -, -⟩ := HP3.out.form (by omega)
            subst e6)
          exact ⟨⟨k + 1, m, cap6, cap2, _, A2, by rw [HN.out]; omega, by go_num, rfl, rfl, by have := HK.out.2; omega, by rw [HPC.out]; exact HP3.out, by rw [HE.out]; exact HS3.out, by rw [HE.out]; exact HML.out, HBA.out⟩, by simp [intOf]; omega⟩
        · have HE := Lib.hid (show scoL ((rs.take (k + 1)).map (·.2)) = scoL ((rs.take k).map (·.2)) ++ [(p, q)] by rw [HNX.out, hsc]; simp)
          have HSV := Lib.hid hsc
          clear hsc
          go_wp2_with (first
            | (
              at_builtin
              refine listS rfl (.tmp 24) (.tmp 27) _ rfl eltP X.heap.size X2.heap.size _ _ k 1 _ _ rfl (HP2.out.alloc _) rfl (own_one X2 #[.slice XA xn xc] _ 1 rfl) (by simp [Value.oneCell']) (by omega) (by have := HK.out.1; omega) (by have := HBRX.out.size; simp; omega) ?_
              intro o3 w3 hown3 hg3
              have HP3 := Lib.hid hown3
              have HBA := Lib.hid (show Below X.heap.size X w3 from below_own (HBRX.out.alloc HBRX.out.size _) (HP2.out.alloc _) hg3 (Nat.le_refl _) (by have := HBRX.out.size; simp; omega))
              have HS3 := Lib.hid (show w3.ownsRow X.heap.size 55 2 (.slice A2 m cap2) m _ from own_keep (HS2.out.alloc _) fun k hk ht => grown_keep (HP2.out.alloc _) hg3 (by decide) hk ht)
              have hzz : wr.heap.size < (X2.alloc (.cells #[.slice XA xn xc] 32)).heap.size := by have := HX2Z.out; simp; omega
              have b2 := past2 HP.out hg3 (Nat.le_refl _) hzz 2 _ (keepA (below_a1 X2 _) HX234.out.1)
              have b3 := past2 HP.out hg3 (Nat.le_refl _) hzz 3 _ (keepA (below_a1 X2 _) HX234.out.2.1)
              have b4 := past2 HP.out hg3 (Nat.le_refl _) hzz 4 _ (keepA (below_a1 X2 _) HX234.out.2.2)
              rw [HSV.out] at b4
              clear hown3 hg3 hzz x1
              obtain ⟨g6, cap6, e6, -, -⟩ := HP3.out.form (by omega)
              subst e6)
            | (
              at_builtin
              refine listS rfl (.tmp 31) (.tmp 34) _ rfl eltS X.heap.size w3.heap.size _ _ m 1 _ _ rfl (HS3.out.alloc _) rfl (own_one w3 #[.int .i64 p, .int .i64 q] _ 2 rfl) (by simp [Value.oneCell']) (by omega) (by have := HK.out; omega) (by have := HBA.out.size; simp; omega) ?_
              intro o4 w4 hown4 hg4
              have HS4 := Lib.hid hown4
              have HBA4 := Lib.hid (show Below X.heap.size X w4 from below_own (HBA.out.alloc HBA.out.size _) (HS3.out.alloc _) hg4 (Nat.le_refl _) (by have := HBA.out.size; simp; omega))
              have HP4 := Lib.hid (show w4.ownsRow X.heap.size 32 1 (.slice (some ⟨g6, 0, none⟩) (k + 1) cap6) (k + 1) _ from own_keep (HP3.out.alloc _) fun k hk ht => grown_keep (HS3.out.alloc _) hg4 (by decide) hk ht)
              clear hown4 hg4
              obtain ⟨g7, cap7, e7, -, -⟩ := HS4.out.form (by omega)
              subst e7))
          exact ⟨⟨k + 1, m + 1, cap6, cap7, _, _, by rw [HN.out]; omega, by go_num, rfl, rfl, by have := HK.out.2; omega, by rw [HPC.out]; exact HP4.out, by rw [HE.out, List.flatMap_append]; exact HS4.out, by rw [HE.out, List.length_append, ← HML.out]; rfl, HBA4.out⟩, by simp [intOf]; omega⟩
      · have hkn : k = n := by omega
        subst hkn
        have htk : rs.take k = rs := List.take_of_length_le (by rw [HN.out]; exact Nat.le_refl _)
        have HV := Lib.hid (show Vecs wr 0 wr.heap.size (.slice A1 k cap1) (ptsL (rs.map (·.2))) from vecs_of (by have := HP.out; rw [htk] at this; rw [HN.out]; exact this) (fun r hr => ((HXS.out r hr).below HBRw.out).more (Nat.le_refl _) HBRw.out.size))
        have HSC := Lib.hid (show Seq 2 scC wr X.heap.size wr.heap.size (.slice A2 m cap2) (scoL (rs.map (·.2))) from Seq.of_own (by have h9 := HS.out; have h8 := HML.out; rw [htk] at h9 h8; rw [← h8]; exact h9))
        have HFL := Lib.hid (show (scoL (rs.map (·.2))).length = m by have h8 := HML.out; rw [htk] at h8; exact h8.symm)
        have HCO := Lib.hid (Columns_any (.slice A1 k cap1) (ptsL (rs.map (·.2))) c0 0 wr HV.out)
        have HLV := Lib.hid (fun W hh => Levels_any (.slice A2 m cap2) (scoL (rs.map (·.2))) c3 W hh HFI.out)
        unfold ClPost at HCO
        unfold LvPost at HLV
        have hLE : levE (scoL (rs.map (·.2))) c3 = levE (scoL (rs.map (·.2))) c3 := rfl
        obtain ⟨CE, hCE⟩ : ∃ E, colsE (ptsL (rs.map (·.2))) c0 = E := ⟨_, rfl⟩
        obtain ⟨LE, hLE⟩ : ∃ E, levE (scoL (rs.map (·.2))) c3 = E := ⟨_, rfl⟩
        rw [hCE] at HCO
        rw [hLE] at HLV
        generalize colsL (ptsL (rs.map (·.2))) c0 = CL at *
        generalize levL (scoL (rs.map (·.2))) c3 = LL at *
        have t0 : wr.cell? ⟨w.heap.size, 0, none⟩ = some (.int .i64 c0) := by rw [cell_of_row _ _ _ _ _ _ (HSB.out wr HBRW.out)]; rfl
        clear hbr hCE hLE htk hlt hmk
        go_wp2_with fail
        refine HCO.out.mono ?_
        rintro e w2 ⟨⟨u1, rfl, hu1⟩, hb2⟩
        obtain ⟨au, ku, rfl⟩ := row_form hu1
        have HU1 := Lib.hid (show Seq 6 colC w2 wr.heap.size w2.heap.size (.slice au CL.length ku) CL from Seq.of_own hu1)
        have HB2 := Lib.hid hb2
        have HB2X := Lib.hid (bt hb2 HBR.out)
        obtain ⟨⟨y0, y1, y2⟩, f0, f1, f2⟩ := HXC.out w2 HB2X.out
        have t3 : w2.cell? ⟨w.heap.size, 3, none⟩ = some (.int .i64 c3) := by
          rw [cell_of_row _ _ _ _ _ _ (HSB.out w2 (bt hb2 HBRW.out))]; rfl
        have hcl : CL.length ≤ ku ∧ ku ≤ 9223372036854775807 := by
          obtain ⟨A', c', e', q1, q2, _⟩ := HU1.out
          injection e' with _ _ e3
          subst e3
          unfold maxLen at q2
          exact ⟨q1, q2⟩
        clear hb2 hu1 t0
        have hne : w.heap.size ≠ w1.heap.size := by have := HZ.out; omega
        generalize hcln : CL.length = cl at *
        go_wp2_with fail
        have hS2 : Seq 2 scC (w2.setCell ⟨w1.heap.size, 1, none⟩ (.slice au cl ku)) 0 (w2.setCell ⟨w1.heap.size, 1, none⟩ (.slice au cl ku)).heap.size (.slice A2 m cap2) (scoL (rs.map (·.2))) :=
          (seq_set ((HSC.out.below HB2.out).more (Nat.le_refl _) HB2.out.size) ⟨w1.heap.size, 1, none⟩ HZX.out _).more (Nat.zero_le _) (by simp)
        refine (HLV.out _ hS2).mono ?_
        rintro e w3 ⟨⟨u2, rfl, hu2⟩, hb3⟩
        obtain ⟨A3', k3', rfl, hk5, hk6, hr3, hn3⟩ := hu2
        have HU2 := Lib.hid (show Seq 1 inC w3 w2.heap.size w3.heap.size (.slice A3' LL.length k3') LL from ⟨A3', k3', rfl, hk5, hk6, by simpa using hr3, hn3⟩)
        have HU1' := Lib.hid (show Seq 6 colC w3 wr.heap.size w3.heap.size (.slice au cl ku) CL from by
          have h9 := seq_set HU1.out ⟨w1.heap.size, 1, none⟩ (by show w1.heap.size < _; have := HZX.out; omega) (.slice au cl ku)
          exact (h9.below (hb3.mono (by simp))).more (Nat.le_refl _) (by have := hb3.size; simpa using this))
        have z0 : (w2.setCell ⟨w1.heap.size, 1, none⟩ (.slice au cl ku)).cell? ⟨w1.heap.size, 0, none⟩ = some (.int .i64 (k : Int)) := by go_simp
        have z1 : (w2.setCell ⟨w1.heap.size, 1, none⟩ (.slice au cl ku)).cell? ⟨w1.heap.size, 1, none⟩ = some (.slice au cl ku) := by go_simp
        have z2 : (w2.setCell ⟨w1.heap.size, 1, none⟩ (.slice au cl ku)).cell? ⟨w1.heap.size, 2, none⟩ = some (.slice none 0 0) := by go_simp
        have g2 : (w2.setCell ⟨w1.heap.size, 1, none⟩ (.slice au cl ku)).frozen? ⟨w1.heap.size, 2, none⟩ = false := by rw [World.frozen?_setCell]; exact f2
        have hzz := World.block_lt_of_cell? _ _ z2
        have hbY : Below W.heap.size W (w2.setCell ⟨w1.heap.size, 1, none⟩ (.slice au cl ku)) := (bt HB2.out HBRW.out).setCell (p := ⟨w1.heap.size, 1, none⟩) HB1.out.size _
        have HB3 := Lib.hid (bt hb3 hbY)
        replace z0 := keepA hb3 z0
        replace z1 := keepA hb3 z1
        replace z2 := keepA hb3 z2
        replace g2 := (hb3.frozen (p := ⟨w1.heap.size, 2, none⟩) hzz).trans g2
        obtain ⟨⟨r0, r1, r2⟩, q0, q1, q2⟩ := HRB.out w3 HB3.out
        have hne2 : W0.heap.size ≠ w1.heap.size := by have := HZ.out; omega
        obtain ⟨ll, hll⟩ : ∃ ll, LL.length = ll := ⟨_, rfl⟩
        rw [hll] at HU2 ⊢
        have l1 : w1.heap.size < w2.heap.size := Nat.lt_of_lt_of_le HZX.out HB2X.out.size
        have l3 : w1.heap.size < wr.heap.size := Nat.lt_of_lt_of_le HZX.out hXr
        have HL := Lib.hid (And.intro l1 l3)
        clear hb3 hbY hzz hk5 hk6 hr3 hn3 y0 y1 y2 f0 f1 f2 t3 hS2 hll l1 l3 hXr hcl
        go_wp2
        refine bodyPost_ret (v := .tuple #[.agg #[.int .i64 (k : Int), .slice au cl ku, .slice A3' ll k3'], .int .i64 0]) (by simp [results, Tryz.results6, go_sem, *]) rfl ?_
        have HWz := HZ.out
        have HLz := HL.out
        refine ⟨⟨.slice au cl ku, .slice A3' ll k3', ?_, ?_, ?_⟩, HST.out _ _ _ _ l2 (HST.out _ _ _ _ l2 (HST.out _ _ _ _ l2 (HST.out _ _ _ _ (by omega) (HB.out.trans (HB3.out.mono HB.out.size)))))⟩
        · rw [HRP.out]
          dsimp only
          rw [List.length_map, HN.out]
        · rw [HRP.out]
          have h9 := seq_set (seq_set (seq_set (seq_set HU1'.out ⟨w1.heap.size, 2, none⟩ HLz.2 (.slice A3' ll k3')) ⟨W0.heap.size, 0, none⟩ (by show W0.heap.size < _; omega) (.int .i64 (k : Int))) ⟨W0.heap.size, 1, none⟩ (by show W0.heap.size < _; omega) (.slice au cl ku)) ⟨W0.heap.size, 2, none⟩ (by show W0.heap.size < _; omega) (.slice A3' ll k3')
          exact h9.more (Nat.zero_le _) (by simp)
        · rw [HRP.out]
          have h9 := seq_set (seq_set (seq_set (seq_set HU2.out ⟨w1.heap.size, 2, none⟩ HLz.1 (.slice A3' ll k3')) ⟨W0.heap.size, 0, none⟩ (by show W0.heap.size < _; omega) (.int .i64 (k : Int))) ⟨W0.heap.size, 1, none⟩ (by show W0.heap.size < _; omega) (.slice au cl ku)) ⟨W0.heap.size, 2, none⟩ (by show W0.heap.size < _; omega) (.slice A3' ll k3')
          exact h9.more (Nat.zero_le _) (by simp)
end Go.Proofs.YtcaeihfgdlffkaaGreatRRRRDoor.OfsW
