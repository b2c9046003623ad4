/- A state that took nothing: it is right (state.Right walked there). -/
import Derived.Test.YtodiipkedhfncaaGreatDoorSchZ
namespace Go.Proofs.YtodiipkedhfncaaGreatDoor.StaE
set_option linter.unusedVariables false
set_option linter.unusedSimpArgs false
open Go.RowKit Base SeqM CfM SchX SchY SchZ

/-- the cells of the state that took nothing -/
def st0C (c : Cf) : List Value := cfC c ++ [.int .i64 0, .int .i64 0, .int .i64 0, .slice none 0 0, .slice none 0 0, .slice none 0 0]
def lk0C (c : Cf) (f : Int) : List Value := st0C c ++ [.int .i64 f]
set_option maxHeartbeats 2000000 in
set_option maxRecDepth 100000 in
theorem window0 (c : Cf) (f : Int) (hc : confOk c) (w : World) :
    Calls Tryz.prog 75 #[.agg (lk0C c f).toArray] w fun e w' => e = .returned (.bool true) ∧ Below w.heap.size w w' := by
  have h1 : 2 ≤ c.c1 ∧ c.c1 ≤ 256 := by unfold confOk at hc; omega
  obtain ⟨c0, c1, c2, c3, c4, c5, c6, c7, c8, c9, c10⟩ := c
  unfold lk0C st0C CfM.cfC
  dsimp only [List.cons_append, List.nil_append] at h1 ⊢
  have hmin : min (0 : Int) c1 = 0 := by omega
  clear hc
  go_enter Tryz.func75, Tryz.ntmps75
  go_wp2
  go_quiet (fail)
  go_wp2
  go_loopw [3, 32] (fun l i wr => l = .int .i64 0 ∧ i = .int .i64 0 ∧ wr.cell? ⟨w.heap.size, 12, none⟩ = some (.int .i64 0) ∧ Below w.heap.size w wr) (fun _ _ _ => 0)
  case atStart => exact ⟨rfl, rfl, by go_simp, below_drewN (below_a1 _ _) nq⟩
  case round =>
    obtain ⟨rfl, rfl, d0, hb⟩ := hrel
    go_wp2
    go_ret
    exact ⟨rfl, hb⟩
set_option maxHeartbeats 2000000 in
set_option maxRecDepth 100000 in
theorem alerts0 (c : Cf) (f : Int) (hc : confOk c) (w : World) :
    Calls Tryz.prog 77 #[.agg (lk0C c f).toArray] w fun e w' => e = .returned (.bool true) ∧ Below w.heap.size w w' := by
  have h1 : 1 ≤ c.c9 ∧ c.c9 ≤ 64 := by unfold confOk at hc; omega
  obtain ⟨c0, c1, c2, c3, c4, c5, c6, c7, c8, c9, c10⟩ := c
  unfold lk0C st0C CfM.cfC
  dsimp only [List.cons_append, List.nil_append] at h1 ⊢
  have hmin : min (0 : Int) c9 = 0 := by omega
  clear hc
  go_enter Tryz.func77, Tryz.ntmps77
  go_wp2
  go_quiet (fail)
  go_wp2
  go_loopw [3, 47] (fun l i wr => l = .int .i64 0 ∧ i = .int .i64 0 ∧ Below w.heap.size w wr) (fun _ _ _ => 0)
  case atStart => exact ⟨rfl, rfl, below_drewN (below_a1 _ _) nq⟩
  case round =>
    obtain ⟨rfl, rfl, hb⟩ := hrel
    go_wp2
    go_ret
    exact ⟨rfl, hb⟩
set_option maxHeartbeats 2000000 in
set_option maxRecDepth 100000 in
theorem every0 (f : Value) (w : World) :
    Calls Tryz.prog 136 #[.slice none 0 0, f] w fun e w' => e = .returned (.bool true) ∧ w = w' := by
  go_enter Tryz.func136, Tryz.ntmps136
  go_wp2
  go_loopw [8] (fun i wr => i = .int .i64 0 ∧ w = wr) (fun _ _ => 0)
  case atStart => exact ⟨rfl, rfl⟩
  case round =>
    obtain ⟨rfl, rfl⟩ := hrel
    go_wp2
    go_ret
    exact ⟨rfl, rfl⟩
set_option maxHeartbeats 2000000 in
set_option maxRecDepth 100000 in
theorem forest0 (w : World) :
    Calls Tryz.prog 107 #[.slice none 0 0] w fun e w' => e = .returned (.bool true) ∧ Below w.heap.size w w' := by
  go_enter Tryz.func107, Tryz.ntmps107
  go_wp2_with fail
  refine (every0 _ _).mono ?_
  rintro e w1 ⟨rfl, rfl⟩
  go_wp2
  go_ret
  exact ⟨rfl, Below.refl _ _⟩
theorem eltI : Elt Tryz.prog 30 3 (.int .i64 0) 1 8 := elt_mk (z := .int .i64 0) Tryz.underlying30 (by kernel_rfl) rfl (by omega) (by omega)
set_option maxHeartbeats 4000000 in
set_option maxRecDepth 100000 in
theorem Births0 (c : Cf) (hc : confOk c) (w : World) :
    Calls Tryz.prog 106 #[.agg (cfC c).toArray, .int .i64 0] w fun e w' => (∃ v, e = .returned (.tuple #[.slice v 0 0, .int .i64 0])) ∧ Below w.heap.size w w' := by
  have h1 := cf_in hc
  have HTU := Lib.hid (fun W => Turns_ok c 0 0 hc (by decide) (by decide) W)
  rw [Int.sub_self, show max (0 : Int) 0 = 0 by decide] at HTU
  have HNX := Lib.hid (fun W => Next_ok c 0 hc (by decide) W)
  obtain ⟨q, hq⟩ : ∃ q, nextC c 0 = q := ⟨_, rfl⟩
  rw [hq] at HNX
  clear hc hq
  obtain ⟨c0, c1, c2, c3, c4, c5, c6, c7, c8, c9, c10⟩ := c
  unfold CfM.cfC at HTU HNX ⊢
  dsimp only at HTU HNX h1 ⊢
  have hmin : min (0 : Int) c2 = 0 := by omega
  have hmax : max (0 : Int) (0 - c2) = 0 := by omega
  have hw : IntKind.i64.wrap (0 - c2) = 0 - c2 := IntWalk.i64_in _ (by omega)
  have hmax2 : max (0 : Int) (-c2) = 0 := by omega
  obtain ⟨W, eW⟩ : ∃ W, w.alloc (.cells #[.int .i64 c0, .int .i64 c1, .int .i64 c2, .int .i64 c3, .int .i64 c4, .int .i64 c5, .int .i64 c6, .int .i64 c7, .int .i64 c8, .int .i64 c9, .int .i64 c10] 53) = W := ⟨_, rfl⟩
  have HB := Lib.hid (show Below w.heap.size w W by rw [← eW]; exact below_a1 _ _)
  have HCS := Lib.hid (show ∀ W' : World, Below W.heap.size W W' → (W'.cell? ⟨w.heap.size, 0, none⟩ = some (.int .i64 c0) ∧ W'.cell? ⟨w.heap.size, 1, none⟩ = some (.int .i64 c1) ∧ W'.cell? ⟨w.heap.size, 2, none⟩ = some (.int .i64 c2) ∧ W'.cell? ⟨w.heap.size, 3, none⟩ = some (.int .i64 c3) ∧ W'.cell? ⟨w.heap.size, 4, none⟩ = some (.int .i64 c4) ∧ W'.cell? ⟨w.heap.size, 5, none⟩ = some (.int .i64 c5) ∧ W'.cell? ⟨w.heap.size, 6, none⟩ = some (.int .i64 c6) ∧ W'.cell? ⟨w.heap.size, 7, none⟩ = some (.int .i64 c7) ∧ W'.cell? ⟨w.heap.size, 8, none⟩ = some (.int .i64 c8) ∧ W'.cell? ⟨w.heap.size, 9, none⟩ = some (.int .i64 c9) ∧ W'.cell? ⟨w.heap.size, 10, none⟩ = some (.int .i64 c10)) by
    intro W' hb
    subst eW
    refine ⟨keepA hb ?_, keepA hb ?_, keepA hb ?_, keepA hb ?_, keepA hb ?_, keepA hb ?_, keepA hb ?_, keepA hb ?_, keepA hb ?_, keepA hb ?_, keepA hb ?_⟩ <;> go_simp)
  obtain ⟨d0, d1, d2, d3, d4, d5, d6, d7, d8, d9, d10⟩ := HCS.out W (Below.refl _ _)
  go_enter Tryz.func106, Tryz.ntmps106
  go_wp2_with fail
  refine (HTU.out _).mono ?_
  rintro e w1 ⟨rfl, hb1⟩
  have HB1 := Lib.hid hb1
  clear d0 d1 d2 d3 d4 d5 d6 d7 d8 d9 d10 hb1
  obtain ⟨d0, d1, d2, d3, d4, d5, d6, d7, d8, d9, d10⟩ := HCS.out w1 HB1.out
  go_wp2_with fail
  refine (HNX.out _).mono ?_
  rintro e w2 ⟨rfl, hb2⟩
  have HB2 := Lib.hid (bt hb2 HB1.out)
  clear d0 d1 d2 d3 d4 d5 d6 d7 d8 d9 d10 hb2
  obtain ⟨d0, d1, d2, d3, d4, d5, d6, d7, d8, d9, d10⟩ := HCS.out w2 HB2.out
  go_wp2_with (at_make; refine mk1 _ rfl (.tmp 29) (.tmp 29) _ rfl eltI rfl 0 rfl rfl (by omega) ?_; intro w3 hown3 hb3; have e2 := (HCS.out w3 (bt hb3 HB2.out)).2.2.1)
  have HB3 := Lib.hid (bt hb3 HB2.out)
  clear hown3 hb3 e2
  go_loopw [11] (fun k wr => k = .int .i64 0 ∧ wr = w3) (fun _ _ => 0)
  case atStart => exact ⟨rfl, rfl⟩
  case round =>
    obtain ⟨rfl, rfl⟩ := hrel
    go_wp2
    go_ret2
    exact ⟨⟨_, rfl⟩, bt HB3.out HB.out⟩
set_option maxHeartbeats 4000000 in
set_option maxRecDepth 100000 in
theorem trees0 (c : Cf) (f : Int) (hc : confOk c) (w : World) :
    Calls Tryz.prog 76 #[.agg (lk0C c f).toArray] w fun e w' => e = .returned (.bool true) ∧ Below w.heap.size w w' := by
  have HBI := Lib.hid (fun W => Births0 c hc W)
  obtain ⟨c0, c1, c2, c3, c4, c5, c6, c7, c8, c9, c10⟩ := c
  unfold lk0C st0C
  unfold CfM.cfC at HBI ⊢
  dsimp only [List.cons_append, List.nil_append] at HBI ⊢
  clear hc
  obtain ⟨W, eW⟩ : ∃ W, w.alloc (.cells #[.int .i64 c0, .int .i64 c1, .int .i64 c2, .int .i64 c3, .int .i64 c4, .int .i64 c5, .int .i64 c6, .int .i64 c7, .int .i64 c8, .int .i64 c9, .int .i64 c10, .int .i64 0, .int .i64 0, .int .i64 0, .slice none 0 0, .slice none 0 0, .slice none 0 0, .int .i64 f] 119) = W := ⟨_, rfl⟩
  have HB := Lib.hid (show Below w.heap.size w W by rw [← eW]; exact below_a1 _ _)
  have HF := Lib.hid (show ∀ W' : World, Below W.heap.size W W' → W'.cell? ⟨w.heap.size, 15, none⟩ = some (.slice none 0 0) by
    intro W' hb
    subst eW
    exact keepA hb (by go_simp))
  have HCS := Lib.hid (show W.cell? ⟨w.heap.size, 11, none⟩ = some (.int .i64 0) ∧ W.cell? ⟨w.heap.size, 0, none⟩ = some (.int .i64 c0) ∧ W.cell? ⟨w.heap.size, 1, none⟩ = some (.int .i64 c1) ∧ W.cell? ⟨w.heap.size, 2, none⟩ = some (.int .i64 c2) ∧ W.cell? ⟨w.heap.size, 3, none⟩ = some (.int .i64 c3) ∧ W.cell? ⟨w.heap.size, 4, none⟩ = some (.int .i64 c4) ∧ W.cell? ⟨w.heap.size, 5, none⟩ = some (.int .i64 c5) ∧ W.cell? ⟨w.heap.size, 6, none⟩ = some (.int .i64 c6) ∧ W.cell? ⟨w.heap.size, 7, none⟩ = some (.int .i64 c7) ∧ W.cell? ⟨w.heap.size, 8, none⟩ = some (.int .i64 c8) ∧ W.cell? ⟨w.heap.size, 9, none⟩ = some (.int .i64 c9) ∧ W.cell? ⟨w.heap.size, 10, none⟩ = some (.int .i64 c10) by
    subst eW
    refine ⟨?_, ?_, ?_, ?_, ?_, ?_, ?_, ?_, ?_, ?_, ?_, ?_⟩ <;> go_simp)
  obtain ⟨d11, d0, d1, d2, d3, d4, d5, d6, d7, d8, d9, d10⟩ := HCS.out
  have f0 := HF.out W (Below.refl _ _)
  go_enter Tryz.func76, Tryz.ntmps76
  go_wp2_with fail
  refine (HBI.out _).mono ?_
  rintro e w1 ⟨⟨v, rfl⟩, hb1⟩
  have HB1 := Lib.hid hb1
  clear d11 f0 d0 d1 d2 d3 d4 d5 d6 d7 d8 d9 d10 hb1
  have f0 := HF.out w1 HB1.out
  go_wp2_with fail
  refine (forest0 _).mono ?_
  rintro e w2 ⟨rfl, hb2⟩
  have HB2 := Lib.hid (bt hb2 HB1.out)
  clear f0 hb2
  have f0 := HF.out w2 HB2.out
  go_wp2_with fail
  go_loopw [35] (fun i wr => i = .int .i64 0 ∧ wr = w2) (fun _ _ => 0)
  case atStart => exact ⟨rfl, rfl⟩
  case round =>
    obtain ⟨rfl, rfl⟩ := hrel
    go_wp2
    go_ret
    exact ⟨rfl, bt HB2.out HB.out⟩
end Go.Proofs.YtodiipkedhfncaaGreatDoor.StaE
