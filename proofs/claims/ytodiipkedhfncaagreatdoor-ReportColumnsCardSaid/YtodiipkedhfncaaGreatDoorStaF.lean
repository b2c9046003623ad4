/- A state that took nothing is right: state.Right (printed by mkstf.py). -/
import Derived.Test.YtodiipkedhfncaaGreatDoorStaE
import Derived.Laws.Tables
namespace Go.Proofs.YtodiipkedhfncaaGreatDoor.StaF
set_option linter.unusedVariables false
set_option linter.unusedSimpArgs false
open Go.RowKit Base SeqM CfM SchX SchY SchZ StaE

theorem bt2 {w W : World} (h : Below W.heap.size W w) {k : Nat} (hk : k < W.heap.size) : w.heap[k]? = W.heap[k]? := h.block k hk
theorem idx0 (W : World) : (Instr.index 121 (Value.agg #[Value.func (Fn.func 75) #[] #[], Value.func (Fn.func 76) #[] #[], Value.func (Fn.func 77) #[] #[]]) (.int .i64 ((0 : Nat) : Int))).run Tryz.prog W = .ok (Value.func (Fn.func 75) #[] #[]) W := by kernel_rfl
theorem idx1 (W : World) : (Instr.index 121 (Value.agg #[Value.func (Fn.func 75) #[] #[], Value.func (Fn.func 76) #[] #[], Value.func (Fn.func 77) #[] #[]]) (.int .i64 ((1 : Nat) : Int))).run Tryz.prog W = .ok (Value.func (Fn.func 76) #[] #[]) W := by kernel_rfl
theorem idx2 (W : World) : (Instr.index 121 (Value.agg #[Value.func (Fn.func 75) #[] #[], Value.func (Fn.func 76) #[] #[], Value.func (Fn.func 77) #[] #[]]) (.int .i64 ((2 : Nat) : Int))).run Tryz.prog W = .ok (Value.func (Fn.func 77) #[] #[]) W := by kernel_rfl
set_option maxHeartbeats 4000000 in
set_option maxRecDepth 100000 in
theorem Right0 (c : Cf) (hc : confOk c) (w : World) :
    Calls Tryz.prog 46 #[.agg (st0C c).toArray] w fun e w' => e = .returned (.bool true) ∧ Below w.heap.size w w' := by
  have h7 : c.c7 ≤ 9223372036854775807 := by unfold confOk at hc; omega
  have HSR := Lib.hid (fun W => SRight_any c h7 W)
  rw [conf_yes hc] at HSR
  have HNX := Lib.hid (fun W => Next_ok c 0 hc (by decide) W)
  obtain ⟨f, hq⟩ : ∃ q, nextC c 0 = q := ⟨_, rfl⟩
  rw [hq] at HNX
  have HW := Lib.hid (fun W => window0 c f hc W)
  have HT := Lib.hid (fun W => trees0 c f hc W)
  have HA := Lib.hid (fun W => alerts0 c f hc W)
  clear hc hq h7
  obtain ⟨c0, c1, c2, c3, c4, c5, c6, c7, c8, c9, c10⟩ := c
  unfold lk0C st0C at HW HT HA
  unfold st0C
  unfold CfM.cfC at HSR HNX HW HT HA ⊢
  dsimp only [List.cons_append, List.nil_append] at HSR HNX HW HT HA ⊢
  obtain ⟨W, eW⟩ : ∃ W, w.alloc (.cells #[.int .i64 c0, .int .i64 c1, .int .i64 c2, .int .i64 c3, .int .i64 c4, .int .i64 c5, .int .i64 c6, .int .i64 c7, .int .i64 c8, .int .i64 c9, .int .i64 c10, .int .i64 0, .int .i64 0, .int .i64 0, .slice none 0 0, .slice none 0 0, .slice none 0 0] 58) = W := ⟨_, rfl⟩
  have HB := Lib.hid (show Below w.heap.size w W by rw [← eW]; exact below_a1 _ _)
  have HCS := Lib.hid (show ∀ W' : World, Below W.heap.size W W' → (W'.cell? ⟨w.heap.size, 0, none⟩ = some (.int .i64 c0) ∧ W'.cell? ⟨w.heap.size, 1, none⟩ = some (.int .i64 c1) ∧ W'.cell? ⟨w.heap.size, 2, none⟩ = some (.int .i64 c2) ∧ W'.cell? ⟨w.heap.size, 3, none⟩ = some (.int .i64 c3) ∧ W'.cell? ⟨w.heap.size, 4, none⟩ = some (.int .i64 c4) ∧ W'.cell? ⟨w.heap.size, 5, none⟩ = some (.int .i64 c5) ∧ W'.cell? ⟨w.heap.size, 6, none⟩ = some (.int .i64 c6) ∧ W'.cell? ⟨w.heap.size, 7, none⟩ = some (.int .i64 c7) ∧ W'.cell? ⟨w.heap.size, 8, none⟩ = some (.int .i64 c8) ∧ W'.cell? ⟨w.heap.size, 9, none⟩ = some (.int .i64 c9) ∧ W'.cell? ⟨w.heap.size, 10, none⟩ = some (.int .i64 c10) ∧ W'.cell? ⟨w.heap.size, 11, none⟩ = some (.int .i64 0) ∧ W'.cell? ⟨w.heap.size, 12, none⟩ = some (.int .i64 0) ∧ W'.cell? ⟨w.heap.size, 13, none⟩ = some (.int .i64 0) ∧ W'.cell? ⟨w.heap.size, 14, none⟩ = some (.slice none 0 0) ∧ W'.cell? ⟨w.heap.size, 15, none⟩ = some (.slice none 0 0) ∧ W'.cell? ⟨w.heap.size, 16, none⟩ = some (.slice none 0 0)) by
    intro W' hb
    subst eW
    refine ⟨keepA hb ?_, keepA hb ?_, keepA hb ?_, keepA hb ?_, keepA hb ?_, keepA hb ?_, keepA hb ?_, keepA hb ?_, keepA hb ?_, keepA hb ?_, keepA hb ?_, keepA hb ?_, keepA hb ?_, keepA hb ?_, keepA hb ?_, keepA hb ?_, keepA hb ?_⟩ <;> go_simp)
  obtain ⟨d0, d1, d2, d3, d4, d5, d6, d7, d8, d9, d10, d11, d12, d13, d14, d15, d16⟩ := HCS.out W (Below.refl _ _)
  go_enter Tryz.func46, Tryz.ntmps46
  go_wp2_with fail
  refine (HSR.out _).mono ?_
  rintro e w1 ⟨rfl, hb1⟩
  have HB1 := Lib.hid hb1
  clear d0 d1 d2 d3 d4 d5 d6 d7 d8 d9 d10 d11 d12 d13 d14 d15 d16 hb1
  obtain ⟨d0, d1, d2, d3, d4, d5, d6, d7, d8, d9, d10, d11, d12, d13, d14, d15, d16⟩ := HCS.out w1 HB1.out
  go_wp2_with fail
  refine (HNX.out _).mono ?_
  rintro e w2 ⟨rfl, hb2⟩
  have HB2 := Lib.hid (bt hb2 HB1.out)
  clear d0 d1 d2 d3 d4 d5 d6 d7 d8 d9 d10 d11 d12 d13 d14 d15 d16 hb2
  obtain ⟨d0, d1, d2, d3, d4, d5, d6, d7, d8, d9, d10, d11, d12, d13, d14, d15, d16⟩ := HCS.out w2 HB2.out
  have HSB := Lib.hid (show w2.heap[w.heap.size]? = some (.cells #[.int .i64 c0, .int .i64 c1, .int .i64 c2, .int .i64 c3, .int .i64 c4, .int .i64 c5, .int .i64 c6, .int .i64 c7, .int .i64 c8, .int .i64 c9, .int .i64 c10, .int .i64 0, .int .i64 0, .int .i64 0, .slice none 0 0, .slice none 0 0, .slice none 0 0] 58 (0, 0)) by
    rw [bt2 HB2.out (by rw [← eW]; simp)]
    rw [← eW]
    exact heap_alloc_new w _)
  go_wp2_with (first
    | (refine (id ?_ : wpList _ _ _ (⟨some 28, .load _ _, _, _, _, _⟩ :: _) _ _)
       refine wpList_load_row rfl 58 (.tmp 1) rfl w.heap.size (by rfl) _ _ _ _ HSB.out Tryz.underlying58 rfl (by kernel_rfl) ?_)
    | (refine (id ?_ : wpList _ _ _ (⟨none, .store _ _ _, _, _, _, _⟩ :: _) _ _)
       refine wpList_store_row rfl 119 (.tmp 5) (.tmp 30) rfl w2.heap.size _ (by rfl) (by rfl) 119 _ (heap_alloc_new w2 _) (by kernel_rfl) (by rfl) (all_one _ (by rfl)) ?_
       generalize hX : World.setRow _ _ _ = X
       have hg : X.heap[w2.heap.size]? = some (.cells #[.int .i64 c0, .int .i64 c1, .int .i64 c2, .int .i64 c3, .int .i64 c4, .int .i64 c5, .int .i64 c6, .int .i64 c7, .int .i64 c8, .int .i64 c9, .int .i64 c10, .int .i64 0, .int .i64 0, .int .i64 0, .slice none 0 0, .slice none 0 0, .slice none 0 0, .int .i64 f] 119 (0, 0)) := by rw [← hX]; exact setRow_heap _ _ _ _ _ _ (heap_alloc_new w2 _)
       have hb : Below w2.heap.size w2 X := by rw [← hX]; exact below_setRow (below_a1 w2 _) (Nat.le_refl _) _
       have HBX := Lib.hid hb
       have HXB := Lib.hid hg
       have HXL := Lib.hid (Array.getElem?_eq_some_iff.1 hg).1
       clear hb hg hX))
  clear d0 d1 d2 d3 d4 d5 d6 d7 d8 d9 d10 d11 d12 d13 d14 d15 d16
  go_loopw [32] (fun i wr => ∃ k : Nat, k ≤ 3 ∧ i = .int .i64 k ∧ Below X.heap.size X wr) (fun i _ => 3 - (intOf i).toNat)
  case atStart => exact ⟨0, by omega, rfl, Below.refl _ _⟩
  case round =>
    obtain ⟨k, hk, rfl, hb⟩ := hrel
    have HBR := Lib.hid hb
    clear hb
    have HXR := Lib.hid ((HBR.out.block w2.heap.size HXL.out).trans HXB.out)
    by_cases hlt : k < 3
    · rcases (show k = 0 ∨ k = 1 ∨ k = 2 by omega) with h0 | h0 | h0
      · have hix : ∀ W, (Instr.index 121 (Value.agg #[Value.func (Fn.func 75) #[] #[], Value.func (Fn.func 76) #[] #[], Value.func (Fn.func 77) #[] #[]]) (.int .i64 (k : Int))).run Tryz.prog W = .ok (Value.func (Fn.func 75) #[] #[]) W := by rw [h0]; exact idx0
        clear h0
        go_wp2_with (refine (id ?_ : wpList _ _ _ (⟨some 36, .load _ _, _, _, _, _⟩ :: _) _ _); refine wpList_load_row rfl 119 (.tmp 5) rfl w2.heap.size (by rfl) _ _ _ _ HXR.out Tryz.underlying119 rfl (by kernel_rfl) ?_)
        refine (HW.out _).mono ?_
        rintro e w4 ⟨rfl, hb4⟩
        have HB4 := Lib.hid (bt hb4 HBR.out)
        clear hb4 hix
        go_wp2
        exact ⟨⟨k + 1, by omega, by go_num, HB4.out⟩, by simp [intOf]; omega⟩
      · have hix : ∀ W, (Instr.index 121 (Value.agg #[Value.func (Fn.func 75) #[] #[], Value.func (Fn.func 76) #[] #[], Value.func (Fn.func 77) #[] #[]]) (.int .i64 (k : Int))).run Tryz.prog W = .ok (Value.func (Fn.func 76) #[] #[]) W := by rw [h0]; exact idx1
        clear h0
        go_wp2_with (refine (id ?_ : wpList _ _ _ (⟨some 36, .load _ _, _, _, _, _⟩ :: _) _ _); refine wpList_load_row rfl 119 (.tmp 5) rfl w2.heap.size (by rfl) _ _ _ _ HXR.out Tryz.underlying119 rfl (by kernel_rfl) ?_)
        refine (HT.out _).mono ?_
        rintro e w4 ⟨rfl, hb4⟩
        have HB4 := Lib.hid (bt hb4 HBR.out)
        clear hb4 hix
        go_wp2
        exact ⟨⟨k + 1, by omega, by go_num, HB4.out⟩, by simp [intOf]; omega⟩
      · have hix : ∀ W, (Instr.index 121 (Value.agg #[Value.func (Fn.func 75) #[] #[], Value.func (Fn.func 76) #[] #[], Value.func (Fn.func 77) #[] #[]]) (.int .i64 (k : Int))).run Tryz.prog W = .ok (Value.func (Fn.func 77) #[] #[]) W := by rw [h0]; exact idx2
        clear h0
        go_wp2_with (refine (id ?_ : wpList _ _ _ (⟨some 36, .load _ _, _, _, _, _⟩ :: _) _ _); refine wpList_load_row rfl 119 (.tmp 5) rfl w2.heap.size (by rfl) _ _ _ _ HXR.out Tryz.underlying119 rfl (by kernel_rfl) ?_)
        refine (HA.out _).mono ?_
        rintro e w4 ⟨rfl, hb4⟩
        have HB4 := Lib.hid (bt hb4 HBR.out)
        clear hb4 hix
        go_wp2
        exact ⟨⟨k + 1, by omega, by go_num, HB4.out⟩, by simp [intOf]; omega⟩
    · obtain rfl : k = 3 := by omega
      go_wp2
      go_ret
      exact ⟨rfl, bt (bt (bt HBR.out HBX.out) HB2.out) HB.out⟩
end Go.Proofs.YtodiipkedhfncaaGreatDoor.StaF
