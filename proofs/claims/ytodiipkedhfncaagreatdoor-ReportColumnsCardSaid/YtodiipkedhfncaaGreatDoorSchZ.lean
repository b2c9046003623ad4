/- sched.Turns, walked (printed by mksch.py). -/
import Derived.Test.YtodiipkedhfncaaGreatDoorSchY
import Derived.Test.YtodiipkedhfncaaGreatDoorHyW
import Derived.Test.YtodiipkedhfncaaGreatDoorRotW
namespace Go.Proofs.YtodiipkedhfncaaGreatDoor.SchZ
set_option linter.unusedVariables false
set_option linter.unusedSimpArgs false
open Go.RowKit Base SeqM CfM SchX SchY HyW RotW

set_option maxHeartbeats 2000000 in
set_option maxRecDepth 100000 in
theorem Turns_ok (c : Cf) (m n : Int) (hc : confOk c) (hm : cnt m) (hn : cnt n) (w : World) :
    Calls Tryz.prog 134 #[.agg (cfC c).toArray, .int .i64 m, .int .i64 n] w fun e w' => e = .returned (.tuple #[.int .i64 (max 0 (upC c n - upC c m)), .int .i64 0]) ∧ Below w.heap.size w w' := by
  have h7 : c.c7 ≤ 9223372036854775807 := by unfold confOk at hc; omega
  have HRI := Lib.hid (fun v W h => right_any c h7 v [m, n] W h)
  rw [right_ok hc (by simpa using ⟨hm, hn⟩)] at HRI
  have HUM := Lib.hid (fun W => upTo_ok c m hc hm W)
  have HUN := Lib.hid (fun W => upTo_ok c n hc hn W)
  have bm := up_bd hc hm
  have bn := up_bd hc hn
  unfold cnt at hm hn
  generalize upC c m = um at *
  generalize upC c n = un at *
  have hmx : (if 0 < un - um then un - um else 0) = max 0 (un - um) := by omega
  have hwr : IntKind.i64.wrap (un - um) = un - um := IntWalk.i64_in _ (by omega)
  clear hc h7
  obtain ⟨c0, c1, c2, c3, c4, c5, c6, c7, c8, c9, c10⟩ := c
  unfold CfM.cfC at HRI HUM HUN ⊢
  dsimp only at HRI HUM HUN ⊢
  obtain ⟨W, eW⟩ : ∃ W, w.alloc (.cells #[.int .i64 c0, .int .i64 c1, .int .i64 c2, .int .i64 c3, .int .i64 c4, .int .i64 c5, .int .i64 c6, .int .i64 c7, .int .i64 c8, .int .i64 c9, .int .i64 c10] 53) = W := ⟨_, rfl⟩
  have HB := Lib.hid (show Below w.heap.size w W by rw [← eW]; exact below_a1 _ _)
  have HCS := Lib.hid (show ∀ W' : World, Below W.heap.size W W' → (W'.cell? ⟨w.heap.size, 0, none⟩ = some (.int .i64 c0) ∧ W'.cell? ⟨w.heap.size, 1, none⟩ = some (.int .i64 c1) ∧ W'.cell? ⟨w.heap.size, 2, none⟩ = some (.int .i64 c2) ∧ W'.cell? ⟨w.heap.size, 3, none⟩ = some (.int .i64 c3) ∧ W'.cell? ⟨w.heap.size, 4, none⟩ = some (.int .i64 c4) ∧ W'.cell? ⟨w.heap.size, 5, none⟩ = some (.int .i64 c5) ∧ W'.cell? ⟨w.heap.size, 6, none⟩ = some (.int .i64 c6) ∧ W'.cell? ⟨w.heap.size, 7, none⟩ = some (.int .i64 c7) ∧ W'.cell? ⟨w.heap.size, 8, none⟩ = some (.int .i64 c8) ∧ W'.cell? ⟨w.heap.size, 9, none⟩ = some (.int .i64 c9) ∧ W'.cell? ⟨w.heap.size, 10, none⟩ = some (.int .i64 c10)) by
    intro W' hb
    subst eW
    refine ⟨keepA hb ?_, keepA hb ?_, keepA hb ?_, keepA hb ?_, keepA hb ?_, keepA hb ?_, keepA hb ?_, keepA hb ?_, keepA hb ?_, keepA hb ?_, keepA hb ?_⟩ <;> go_simp)
  obtain ⟨d0, d1, d2, d3, d4, d5, d6, d7, d8, d9, d10⟩ := HCS.out W (Below.refl _ _)
  go_enter Tryz.func134, Tryz.ntmps134
  go_wp2_with fail
  refine (HRI.out _ _ (seq_lit W [m, n] (by simp) (by simp [maxLen]) _ _ rfl)).mono ?_
  rintro e w1 ⟨rfl, hb1⟩
  have HB1 := Lib.hid (bt hb1 (below_a1 W (.cells #[.int .i64 m, .int .i64 n] 3)))
  clear d0 d1 d2 d3 d4 d5 d6 d7 d8 d9 d10 hb1
  have CL := Lib.hid (HCS.out w1 HB1.out)
  go_wp2_with fail
  refine regionZ 8 (fun w' => w'.cell? ⟨w.heap.size, 0, none⟩ = some (.int .i64 c0) ∧ w'.cell? ⟨w.heap.size, 1, none⟩ = some (.int .i64 c1) ∧ w'.cell? ⟨w.heap.size, 2, none⟩ = some (.int .i64 c2) ∧ w'.cell? ⟨w.heap.size, 3, none⟩ = some (.int .i64 c3) ∧ w'.cell? ⟨w.heap.size, 4, none⟩ = some (.int .i64 c4) ∧ w'.cell? ⟨w.heap.size, 5, none⟩ = some (.int .i64 c5) ∧ w'.cell? ⟨w.heap.size, 6, none⟩ = some (.int .i64 c6) ∧ w'.cell? ⟨w.heap.size, 7, none⟩ = some (.int .i64 c7) ∧ w'.cell? ⟨w.heap.size, 8, none⟩ = some (.int .i64 c8) ∧ w'.cell? ⟨w.heap.size, 9, none⟩ = some (.int .i64 c9) ∧ w'.cell? ⟨w.heap.size, 10, none⟩ = some (.int .i64 c10)) (by kernel_rfl) (CL.out) (fun hH => ?_)
  refine takeZ 0 (v := ?_) (gi rfl) (by kernel_rfl) (fun _ _ _ h => h) hH (.inl ⟨rfl, fun w hW => ?_⟩) ?_
  rotate_left
  · (obtain ⟨hW0, hW1, hW2, hW3, hW4, hW5, hW6, hW7, hW8, hW9, hW10⟩ := hW; go_simp; try with_reducible rfl)
  try simp only [Act.put, List.setIfInBounds_toArray, List.set_cons_zero, List.set_cons_succ]
  refine takeZ 1 (v := ?_) (gi rfl) (by kernel_rfl) (fun _ _ _ h => h) hH (.inl ⟨rfl, fun w hW => ?_⟩) ?_
  rotate_left
  · (go_simp; try with_reducible rfl)
  try simp only [Act.put, List.setIfInBounds_toArray, List.set_cons_zero, List.set_cons_succ]
  refine takeZ 3 (v := ?_) (gi rfl) (by kernel_rfl) (fun _ _ _ h => h) hH (.inl ⟨rfl, fun w hW => ?_⟩) ?_
  rotate_left
  · (obtain ⟨hW0, hW1, hW2, hW3, hW4, hW5, hW6, hW7, hW8, hW9, hW10⟩ := hW; go_simp; try with_reducible rfl)
  try simp only [Act.put, List.setIfInBounds_toArray, List.set_cons_zero, List.set_cons_succ]
  refine takeZ 4 (v := ?_) (gi rfl) (by kernel_rfl) (fun _ _ _ h => h) hH (.inl ⟨rfl, fun w hW => ?_⟩) ?_
  rotate_left
  · (go_simp; try with_reducible rfl)
  try simp only [Act.put, List.setIfInBounds_toArray, List.set_cons_zero, List.set_cons_succ]
  refine oneZ 2 (by kernel_rfl) (gi rfl) (fun K hK => ?_)
  try simp only [Act.put, List.setIfInBounds_toArray, List.set_cons_zero, List.set_cons_succ]
  go_simp
  refine (HUN.out _).mono ?_
  rintro e x1 ⟨rfl, hb2⟩
  have HK1 := Lib.hid hb2
  clear hb2
  refine hK.out _ _ (fun _ => HCS.out _ (bt HK1.out (HB1.out.drew))) (fun hH => ?_)
  replace hH := hH (by decide)
  clear hK K
  try simp only [Act.put, List.setIfInBounds_toArray, List.set_cons_zero, List.set_cons_succ]
  refine oneZ 5 (by kernel_rfl) (gi rfl) (fun K hK => ?_)
  try simp only [Act.put, List.setIfInBounds_toArray, List.set_cons_zero, List.set_cons_succ]
  go_simp
  refine (HUM.out _).mono ?_
  rintro e x2 ⟨rfl, hb2⟩
  have HK2 := Lib.hid hb2
  clear hb2
  refine hK.out _ _ (fun _ => HCS.out _ (bt HK2.out (bt HK1.out (HB1.out.drew)))) (fun hH => ?_)
  replace hH := hH (by decide)
  clear hK K
  try simp only [Act.put, List.setIfInBounds_toArray, List.set_cons_zero, List.set_cons_succ]
  refine takeZ 6 (v := ?_) (gi rfl) (by kernel_rfl) (fun _ _ _ h => h) hH (.inl ⟨rfl, fun w hW => ?_⟩) ?_
  rotate_left
  · (go_simp; try with_reducible rfl)
  try simp only [Act.put, List.setIfInBounds_toArray, List.set_cons_zero, List.set_cons_succ]
  refine takeZ 7 (v := ?_) (gi rfl) (by kernel_rfl) (fun _ _ _ h => h) hH (.inl ⟨rfl, fun w hW => ?_⟩) ?_
  rotate_left
  · (go_simp; try with_reducible rfl)
  try simp only [Act.put, List.setIfInBounds_toArray, List.set_cons_zero, List.set_cons_succ]
  refine oneZ 8 (by kernel_rfl) (gi rfl) (fun K hK => ?_)
  try simp only [Act.put, List.setIfInBounds_toArray, List.set_cons_zero, List.set_cons_succ]
  go_simp
  refine hK.out _ _ (fun h => absurd h (by decide)) (fun hH => ?_)
  clear hK K
  try simp only [Act.put, List.setIfInBounds_toArray, List.set_cons_zero, List.set_cons_succ]
  refine oneZ 9 (by kernel_rfl) (gi rfl) (fun K hK => ?_)
  try simp only [Act.put, List.setIfInBounds_toArray, List.set_cons_zero, List.set_cons_succ]
  go_simp
  refine hK.out _ _ (fun h => absurd h (by decide)) (fun hH => ?_)
  clear hK K
  try simp only [Act.put, List.setIfInBounds_toArray, List.set_cons_zero, List.set_cons_succ]
  refine doneZ (by kernel_rfl) ?_ _
  clear hH
  go_wp2_with fail
  go_ret2
  exact ⟨rfl, bt HK2.out (bt HK1.out (bt (HB1.out.drew) HB.out))⟩
end Go.Proofs.YtodiipkedhfncaaGreatDoor.SchZ
