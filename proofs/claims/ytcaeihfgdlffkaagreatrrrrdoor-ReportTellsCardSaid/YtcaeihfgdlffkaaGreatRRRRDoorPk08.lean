/- A state that took nothing is right: state.Right (printed by mkstf.py). -/
import Derived.Test.YtcaeihfgdlffkaaGreatRRRRDoorPk07
import Derived.Laws.Tables
import Derived.Test.YtcaeihfgdlffkaaGreatRRRRDoorPk03
import Derived.Test.YtcaeihfgdlffkaaGreatRRRRDoorPk05
namespace Go.Proofs.YtcaeihfgdlffkaaGreatRRRRDoor.StaF
set_option linter.unusedVariables false
set_option linter.unusedSimpArgs false
open Go.RowKit Base SeqM CfM SchX SchY SchZ StaE

theorem bt2 {w W : World} (h : Below W.heap.size W w) {k : Nat} (hk : k < W.heap.size) : w.heap[k]? = W.heap[k]? := h.block k hk
theorem idx0 (W : World) : (Instr.index 86 (Value.agg #[Value.func (Fn.func 39) #[] #[], Value.func (Fn.func 40) #[] #[], Value.func (Fn.func 41) #[] #[]]) (.int .i64 ((0 : Nat) : Int))).run Tryz.prog W = .ok (Value.func (Fn.func 39) #[] #[]) W := by kernel_rfl
theorem idx1 (W : World) : (Instr.index 86 (Value.agg #[Value.func (Fn.func 39) #[] #[], Value.func (Fn.func 40) #[] #[], Value.func (Fn.func 41) #[] #[]]) (.int .i64 ((1 : Nat) : Int))).run Tryz.prog W = .ok (Value.func (Fn.func 40) #[] #[]) W := by kernel_rfl
theorem idx2 (W : World) : (Instr.index 86 (Value.agg #[Value.func (Fn.func 39) #[] #[], Value.func (Fn.func 40) #[] #[], Value.func (Fn.func 41) #[] #[]]) (.int .i64 ((2 : Nat) : Int))).run Tryz.prog W = .ok (Value.func (Fn.func 41) #[] #[]) W := by kernel_rfl
set_option maxHeartbeats 4000000 in
set_option maxRecDepth 100000 in
theorem Right0 (c : Cf) (hc : confOk c) (w : World) :
    Calls Tryz.prog 17 #[.agg (st0C c).toArray] w fun e w' => e = .returned (.bool true) ∧ Below w.heap.size w w' := by
  have h7 : c.c7 ≤ 9223372036854775807 := by unfold confOk at hc; omega
  have HSR := Lib.hid (fun W => SRight_any c h7 W)
  rw [conf_yes hc] at HSR
  have HNX := Lib.hid (fun W => Next_ok c 0 hc (by decide) W)
  obtain ⟨f, hq⟩ : ∃ q, nextC c 0 = q := ⟨_, rfl⟩
  rw [hq] at HNX
  have HW := Lib.hid (fun W => window0 c f hc W)
  have HT := Lib.hid (fun W => trees0 c f hc W)
  have HA := Lib.hid (fun W => alerts0 c f hc W)
  clear hc hq h7
  obtain ⟨c0, c1, c2, c3, c4, c5, c6, c7, c8, c9, c10⟩ := c
  unfold lk0C st0C at HW HT HA
  unfold st0C
  unfold CfM.cfC at HSR HNX HW HT HA ⊢
  dsimp only [List.cons_append, List.nil_append] at HSR HNX HW HT HA ⊢
  obtain ⟨W, eW⟩ : ∃ W, w.alloc (.cells #[.int .i64 c0, .int .i64 c1, .int .i64 c2, .int .i64 c3, .int .i64 c4, .int .i64 c5, .int .i64 c6, .int .i64 c7, .int .i64 c8, .int .i64 c9, .int .i64 c10, .int .i64 0, .int .i64 0, .int .i64 0, .slice none 0 0, .slice none 0 0, .slice none 0 0] 28) = W := ⟨_, rfl⟩
  have HB := Lib.hid (show Below w.heap.size w W by rw [← eW]; exact below_a1 _ _)
  have HCS := Lib.hid (show ∀ W' : World, Below W.heap.size W W' → (W'.cell? ⟨w.heap.size, 0, none⟩ = some (.int .i64 c0) ∧ W'.cell? ⟨w.heap.size, 1, none⟩ = some (.int .i64 c1) ∧ W'.cell? ⟨w.heap.size, 2, none⟩ = some (.int .i64 c2) ∧ W'.cell? ⟨w.heap.size, 3, none⟩ = some (.int .i64 c3) ∧ W'.cell? ⟨w.heap.size, 4, none⟩ = some (.int .i64 c4) ∧ W'.cell? ⟨w.heap.size, 5, none⟩ = some (.int .i64 c5) ∧ W'.cell? ⟨w.heap.size, 6, none⟩ = some (.int .i64 c6) ∧ W'.cell? ⟨w.heap.size, 7, none⟩ = some (.int .i64 c7) ∧ W'.cell? ⟨w.heap.size, 8, none⟩ = some (.int .i64 c8) ∧ W'.cell? ⟨w.heap.size, 9, none⟩ = some (.int .i64 c9) ∧ W'.cell? ⟨w.heap.size, 10, none⟩ = some (.int .i64 c10) ∧ W'.cell? ⟨w.heap.size, 11, none⟩ = some (.int .i64 0) ∧ W'.cell? ⟨w.heap.size, 12, none⟩ = some (.int .i64 0) ∧ W'.cell? ⟨w.heap.size, 13, none⟩ = some (.int .i64 0) ∧ W'.cell? ⟨w.heap.size, 14, none⟩ = some (.slice none 0 0) ∧ W'.cell? ⟨w.heap.size, 15, none⟩ = some (.slice none 0 0) ∧ W'.cell? ⟨w.heap.size, 16, none⟩ = some (.slice none 0 0)) by
    intro W' hb
    subst eW
    refine ⟨keepA hb ?_, keepA hb ?_, keepA hb ?_, keepA hb ?_, keepA hb ?_, keepA hb ?_, keepA hb ?_, keepA hb ?_, keepA hb ?_, keepA hb ?_, keepA hb ?_, keepA hb ?_, keepA hb ?_, keepA hb ?_, keepA hb ?_, keepA hb ?_, keepA hb ?_⟩ <;> go_simp)
  obtain ⟨d0, d1, d2, d3, d4, d5, d6, d7, d8, d9, d10, d11, d12, d13, d14, d15, d16⟩ := HCS.out W (Below.refl _ _)
  go_enter Tryz.func17, Tryz.ntmps17
  go_wp2_with fail
  refine (HSR.out _).mono ?_
  rintro e w1 ⟨rfl, hb1⟩
  have HB1 := Lib.hid hb1
  clear d0 d1 d2 d3 d4 d5 d6 d7 d8 d9 d10 d11 d12 d13 d14 d15 d16 hb1
  obtain ⟨d0, d1, d2, d3, d4, d5, d6, d7, d8, d9, d10, d11, d12, d13, d14, d15, d16⟩ := HCS.out w1 HB1.out
  go_wp2_with fail
  refine (HNX.out _).mono ?_
  rintro e w2 ⟨rfl, hb2⟩
  have HB2 := Lib.hid (bt hb2 HB1.out)
  clear d0 d1 d2 d3 d4 d5 d6 d7 d8 d9 d10 d11 d12 d13 d14 d15 d16 hb2
  obtain ⟨d0, d1, d2, d3, d4, d5, d6, d7, d8, d9, d10, d11, d12, d13, d14, d15, d16⟩ := HCS.out w2 HB2.out
  have HSB := Lib.hid (show w2.heap[w.heap.size]? = some (.cells #[.int .i64 c0, .int .i64 c1, .int .i64 c2, .int .i64 c3, .int .i64 c4, .int .i64 c5, .int .i64 c6, .int .i64 c7, .int .i64 c8, .int .i64 c9, .int .i64 c10, .int .i64 0, .int .i64 0, .int .i64 0, .slice none 0 0, .slice none 0 0, .slice none 0 0] 28 (0, 0)) by
    rw [bt2 HB2.out (by rw [← eW]; simp)]
    rw [← eW]
    exact heap_alloc_new w _)
  go_wp2_with (first
    | (refine (id ?_ : wpList _ _ _ (⟨some 28, .load _ _, _, _, _, _⟩ :: _) _ _)
       refine wpList_load_row rfl 28 (.tmp 1) rfl w.heap.size (by rfl) _ _ _ _ HSB.out Tryz.underlying28 rfl (by kernel_rfl) ?_)
    | (refine (id ?_ : wpList _ _ _ (⟨none, .store _ _ _, _, _, _, _⟩ :: _) _ _)
       refine wpList_store_row rfl 84 (.tmp 5) (.tmp 30) rfl w2.heap.size _ (by rfl) (by rfl) 84 _ (heap_alloc_new w2 _) (by kernel_rfl) (by rfl) (all_one _ (by rfl)) ?_
       generalize hX : World.setRow _ _ _ = X
       have hg : X.heap[w2.heap.size]? = some (.cells #[.int .i64 c0, .int .i64 c1, .int .i64 c2, .int .i64 c3, .int .i64 c4, .int .i64 c5, .int .i64 c6, .int .i64 c7, .int .i64 c8, .int .i64 c9, .int .i64 c10, .int .i64 0, .int .i64 0, .int .i64 0, .slice none 0 0, .slice none 0 0, .slice none 0 0, .int .i64 f] 84 (0, 0)) := by rw [← hX]; exact setRow_heap _ _ _ _ _ _ (heap_alloc_new w2 _)
       have hb : Below w2.heap.size w2 X := by rw [← hX]; exact below_setRow (below_a1 w2 _) (Nat.le_refl _) _
       have HBX := Lib.hid hb
       have HXB := Lib.hid hg
       have HXL := Lib.hid (Array.getElem?_eq_some_iff.1 hg).1
       clear hb hg hX))
  clear d0 d1 d2 d3 d4 d5 d6 d7 d8 d9 d10 d11 d12 d13 d14 d15 d16
  go_loopw [32] (fun i wr => ∃ k : Nat, k ≤ 3 ∧ i = .int .i64 k ∧ Below X.heap.size X wr) (fun i _ => 3 - (intOf i).toNat)
  case atStart => exact ⟨0, by omega, rfl, Below.refl _ _⟩
  case round =>
    obtain ⟨k, hk, rfl, hb⟩ := hrel
    have HBR := Lib.hid hb
    clear hb
    have HXR := Lib.hid ((HBR.out.block w2.heap.size HXL.out).trans HXB.out)
    by_cases hlt : k < 3
    · rcases (show k = 0 ∨ k = 1 ∨ k = 2 by omega) with h0 | h0 | h0
      · have hix : ∀ W, (Instr.index 86 (Value.agg #[Value.func (Fn.func 39) #[] #[], Value.func (Fn.func 40) #[] #[], Value.func (Fn.func 41) #[] #[]]) (.int .i64 (k : Int))).run Tryz.prog W = .ok (Value.func (Fn.func 39) #[] #[]) W := by rw [h0]; exact idx0
        clear h0
        go_wp2_with (refine (id ?_ : wpList _ _ _ (⟨some 36, .load _ _, _, _, _, _⟩ :: _) _ _); refine wpList_load_row rfl 84 (.tmp 5) rfl w2.heap.size (by rfl) _ _ _ _ HXR.out Tryz.underlying84 rfl (by kernel_rfl) ?_)
        refine (HW.out _).mono ?_
        rintro e w4 ⟨rfl, hb4⟩
        have HB4 := Lib.hid (bt hb4 HBR.out)
        clear hb4 hix
        go_wp2
        exact ⟨⟨k + 1, by omega, by go_num, HB4.out⟩, by simp [intOf]; omega⟩
      · have hix : ∀ W, (Instr.index 86 (Value.agg #[Value.func (Fn.func 39) #[] #[], Value.func (Fn.func 40) #[] #[], Value.func (Fn.func 41) #[] #[]]) (.int .i64 (k : Int))).run Tryz.prog W = .ok (Value.func (Fn.func 40) #[] #[]) W := by rw [h0]; exact idx1
        clear h0
        go_wp2_with (refine (id ?_ : wpList _ _ _ (⟨some 36, .load _ _, _, _, _, _⟩ :: _) _ _); refine wpList_load_row rfl 84 (.tmp 5) rfl w2.heap.size (by rfl) _ _ _ _ HXR.out Tryz.underlying84 rfl (by kernel_rfl) ?_)
        refine (HT.out _).mono ?_
        rintro e w4 ⟨rfl, hb4⟩
        have HB4 := Lib.hid (bt hb4 HBR.out)
        clear hb4 hix
        go_wp2
        exact ⟨⟨k + 1, by omega, by go_num, HB4.out⟩, by simp [intOf]; omega⟩
      · have hix : ∀ W, (Instr.index 86 (Value.agg #[Value.func (Fn.func 39) #[] #[], Value.func (Fn.func 40) #[] #[], Value.func (Fn.func 41) #[] #[]]) (.int .i64 (k : Int))).run Tryz.prog W = .ok (Value.func (Fn.func 41) #[] #[]) W := by rw [h0]; exact idx2
        clear h0
        go_wp2_with (refine (id ?_ : wpList _ _ _ (⟨some 36, .load _ _, _, _, _, _⟩ :: _) _ _); refine wpList_load_row rfl 84 (.tmp 5) rfl w2.heap.size (by rfl) _ _ _ _ HXR.out Tryz.underlying84 rfl (by kernel_rfl) ?_)
        refine (HA.out _).mono ?_
        rintro e w4 ⟨rfl, hb4⟩
        have HB4 := Lib.hid (bt hb4 HBR.out)
        clear hb4 hix
        go_wp2
        exact ⟨⟨k + 1, by omega, by go_num, HB4.out⟩, by simp [intOf]; omega⟩
    · obtain rfl : k = 3 := by omega
      go_wp2
      go_ret
      exact ⟨rfl, bt (bt (bt HBR.out HBX.out) HB2.out) HB.out⟩
end Go.Proofs.YtcaeihfgdlffkaaGreatRRRRDoor.StaF

/- Plain mathematics of the greatest common divisor, by what each number leaves of the other. -/
namespace Go.Proofs.YtcaeihfgdlffkaaGreatRRRRDoor.GcdM
open BigM
def g (a b : Int) : Int := (Int.gcd a b : Int)
theorem g_def (a b : Int) : g a b = (Nat.gcd a.natAbs b.natAbs : Int) := rfl
theorem g_nonneg (a b : Int) : 0 ≤ g a b := by rw [g_def]; omega
theorem g_zero (a : Int) : g a 0 = (a.natAbs : Int) := by simp [g_def]
theorem g_step (a b : Int) : g a b = g b (a.tmod b) := by
  rw [g_def, g_def, Int.natAbs_tmod, Nat.gcd_comm a.natAbs, Nat.gcd_rec b.natAbs a.natAbs, Nat.gcd_comm]
theorem g_one (a : Int) : g a (-1) = 1 := by simp [g_def]
theorem g_natAbs (a b : Int) : g a.natAbs b.natAbs = g a b := by simp [g_def]
theorem g_le_right (a b : Int) (h : b ≠ 0) : g a b ≤ (b.natAbs : Int) := by
  rw [g_def]; have := Nat.gcd_le_right a.natAbs (show 0 < b.natAbs by omega); omega
theorem g_le_left (a b : Int) (h : a ≠ 0) : g a b ≤ (a.natAbs : Int) := by
  rw [g_def]; have := Nat.gcd_le_left b.natAbs (show 0 < a.natAbs by omega); omega
theorem g_bd (a b : Int) (ha : -9223372036854775808 ≤ a ∧ a ≤ 9223372036854775807) (hb : -9223372036854775808 ≤ b ∧ b ≤ 9223372036854775807) : g a b ≤ 9223372036854775808 := by
  by_cases h : b = 0
  · subst h; rw [g_zero]; omega
  · have := g_le_right a b h; omega
/-- what num.Gcd and copseref01.Gcd tell -/
def gcdV (a b : Int) : Int := fitsV (g a b)
def gcdE (a b : Int) : Int := fitsE (g a b)
theorem gcd_in {a b : Int} (h : g a b ≤ 9223372036854775807) : gcdV a b = g a b ∧ gcdE a b = 0 := by
  have := g_nonneg a b
  exact fits_in (by omega) h
theorem tmod_bd (a b : Int) (h : b ≠ 0) (hb : -9223372036854775808 ≤ b ∧ b ≤ 9223372036854775807) : -9223372036854775808 ≤ a.tmod b ∧ a.tmod b ≤ 9223372036854775807 ∧ (a.tmod b).natAbs < b.natAbs := by
  have h1 : (a.tmod b).natAbs < b.natAbs := by rw [Int.natAbs_tmod]; exact Nat.mod_lt _ (by omega)
  omega
end Go.Proofs.YtcaeihfgdlffkaaGreatRRRRDoor.GcdM

/- The walks of copseref01.Sub and Gcd, and of num.size and num.Gcd. -/
namespace Go.Proofs.YtcaeihfgdlffkaaGreatRRRRDoor.GcdW
set_option linter.unusedVariables false
open Go.RowKit Base BigM BigW BigZ GcdM

set_option maxHeartbeats 1000000 in
theorem Sub_any (a b : Int) (w : World) (a0 : -9223372036854775808 ≤ a) (a1 : a ≤ 9223372036854775807) (b0 : -9223372036854775808 ≤ b) (b1 : b ≤ 9223372036854775807) :
    Calls Tryz.prog 53 #[.int .i64 a, .int .i64 b] w fun e w' => e = .returned (.tuple #[.int .i64 (fitsV (a - b)), .int .i64 (fitsE (a - b))]) ∧ Below w.heap.size w w' := by
  go_enter Tryz.func53, Tryz.ntmps53
  go_wp2_with fail
  refine (Int_any a _ a0 a1).mono ?_
  rintro e w1 ⟨⟨v1, rfl, hv1⟩, hb1⟩
  have HV1 := Lib.hid hv1
  clear hv1
  go_wp2_with fail
  refine (Int_any b _ b0 b1).mono ?_
  rintro e w2 ⟨⟨v2, rfl, hv2⟩, hb2⟩
  have HV2 := Lib.hid hv2
  clear hv2
  go_wp2_with fail
  refine (Turn_any _ b 4 _ HV2.out).mono ?_
  rintro e w3 ⟨⟨v3, rfl, hv3⟩, hb3⟩
  have HV3 := Lib.hid hv3
  clear hv3
  have hb23 := hb2.trans (hb3.mono hb2.size)
  go_wp2_with fail
  refine (Both_any _ _ a (-b) 4 4 _ ((HV1.out.below hb23 (Nat.le_refl _)).more hb23.size (Nat.le_refl _)) HV3.out (by omega) (by omega)).mono ?_
  rintro e w4 ⟨⟨v4, rfl, hv4⟩, hb4⟩
  have HV4 := Lib.hid hv4
  clear hv4
  go_wp2_with fail
  refine (Fits_any _ (a + -b) _ _ HV4.out (by omega)).mono ?_
  rintro e w5 ⟨rfl, hb5⟩
  go_wp2
  go_ret2
  refine ⟨ret_int2 (by rw [Int.sub_eq_add_neg]) (by rw [Int.sub_eq_add_neg]), ?_⟩
  exact hb1.trans ((hb23.trans ((hb4.trans (hb5.mono hb4.size)).mono hb23.size)).mono hb1.size)

def GcdRel (a b : Int) (x y : Value) : Prop := ∃ p q : Int, x = .int .i64 p ∧ y = .int .i64 q ∧ g p q = g a b ∧ (-9223372036854775808 ≤ p ∧ p ≤ 9223372036854775807) ∧ (-9223372036854775808 ≤ q ∧ q ≤ 9223372036854775807)

set_option maxHeartbeats 1000000 in
theorem RGcd_any (a b : Int) (w : World) (a0 : -9223372036854775808 ≤ a) (a1 : a ≤ 9223372036854775807) (b0 : -9223372036854775808 ≤ b) (b1 : b ≤ 9223372036854775807) :
    Calls Tryz.prog 119 #[.int .i64 a, .int .i64 b] w fun e w' => e = .returned (.tuple #[.int .i64 (gcdV a b), .int .i64 (gcdE a b)]) ∧ Below w.heap.size w w' := by
  have H0 := Lib.hid (show GcdRel a b (.int .i64 a) (.int .i64 b) from ⟨a, b, rfl, rfl, rfl, ⟨a0, a1⟩, ⟨b0, b1⟩⟩)
  go_enter Tryz.func119, Tryz.ntmps119
  go_wp2
  go_loopw [6, 7] (fun x y wr => GcdRel a b x y ∧ Below w.heap.size w wr) (fun _ y _ => (intOf y).natAbs)
  case atStart => exact ⟨H0.out, Below.refl _ _⟩
  case round =>
    obtain ⟨⟨p, q, rfl, rfl, hg, hp, hq⟩, hbel⟩ := hrel
    have HG := Lib.hid hg
    clear hg
    by_cases hz : q = 0
    · subst hz
      have hgp := HG.out
      rw [g_zero] at hgp
      by_cases hneg : p < 0
      · go_wp2_with fail
        refine (Sub_any 0 p _ (by omega) (by omega) hp.1 hp.2).mono ?_
        rintro e w1 ⟨rfl, hb1⟩
        have HGP := Lib.hid hgp
        clear hgp
        go_wp2
        go_ret2
        refine ⟨ret_int2 ?_ ?_, hbel.trans (hb1.mono hbel.size)⟩
        · rw [gcdV, ← HGP.out]; congr 1; omega
        · rw [gcdE, ← HGP.out]; congr 1; omega
      · have HGP := Lib.hid hgp
        clear hgp
        have HE := Lib.hid (gcd_in (a := a) (b := b) (by rw [← HGP.out]; omega))
        go_wp2
        go_ret2
        refine ⟨ret_int2 ?_ ?_, hbel⟩
        · rw [HE.out.1, ← HGP.out]; omega
        · rw [HE.out.2]
    · have hz2 : (q == 0) = false := by simpa using hz
      by_cases hone : q = -1
      · subst hone
        have HE := Lib.hid (gcd_in (a := a) (b := b) (by rw [← HG.out, g_one]; omega))
        have HG1 := Lib.hid (show g a b = 1 by rw [← HG.out, g_one])
        go_wp2
        go_ret2
        exact ⟨ret_int2 (by rw [HE.out.1, HG1.out]) HE.out.2.symm, hbel⟩
      · have hone2 : (q == -1) = false := by simpa using hone
        have hbd := tmod_bd p q hz hq
        go_wp2
        go_quiet (fail)
        go_wp2
        exact ⟨⟨⟨q, _, rfl, rfl, by rw [← HG.out, g_step p q], hq, hbd.1, hbd.2.1⟩, below_drewN hbel _⟩, hbd.2.2⟩
end Go.Proofs.YtcaeihfgdlffkaaGreatRRRRDoor.GcdW

/- Plain mathematics of ratios: what is right, and what comes of two. -/
namespace Go.Proofs.YtcaeihfgdlffkaaGreatRRRRDoor.RatM
open BigM GcdM
def isR (p q : Int) : Bool := decide (1 ≤ q ∧ q ≤ 1073741824 ∧ -1073741824 ≤ p ∧ p ≤ 1073741824 ∧ g p q = 1)
theorem isR_true {p q : Int} (h : isR p q = true) : 1 ≤ q ∧ q ≤ 1073741824 ∧ -1073741824 ≤ p ∧ p ≤ 1073741824 ∧ g p q = 1 := of_decide_eq_true h
theorem isR_mk {p q : Int} (h : 1 ≤ q ∧ q ≤ 1073741824 ∧ -1073741824 ≤ p ∧ p ≤ 1073741824 ∧ g p q = 1) : isR p q = true := decide_eq_true h
theorem isR_no {p q : Int} (h : ¬(1 ≤ q ∧ q ≤ 1073741824 ∧ -1073741824 ≤ p ∧ p ≤ 1073741824)) : isR p q = false := decide_eq_false (fun k => h ⟨k.1, k.2.1, k.2.2.1, k.2.2.2.1⟩)
theorem isR_g {p q : Int} (h1 : 1 ≤ q) (h2 : q ≤ 1073741824) (h3 : -1073741824 ≤ p) (h4 : p ≤ 1073741824) : (gcdV p q == 1) = isR p q := by
  have hg := g_le_right p q (by omega)
  rw [(gcd_in (a := p) (b := q) (by omega)).1]
  unfold isR
  by_cases h : g p q = 1
  · rw [h]; simp [h1, h2, h3, h4]
  · simp [h]
def longB (n : Int) : Bool := decide (n < -1073741824 ∨ 1073741824 < n)
def ofX (p q : Int) : Int := p.tdiv (g p q)
def ofY (p q : Int) : Int := q.tdiv (g p q)
def ofR (p q : Int) : Int × Int × Int :=
  if q = 0 then (0, 0, 11) else if (longB (ofX p q) || longB (ofY p q)) = true then (0, 0, 10) else if ofY p q < 0 then (-ofX p q, -ofY p q, 0) else (ofX p q, ofY p q, 0)
theorem ofR_zero (p : Int) : ofR p 0 = (0, 0, 11) := by unfold ofR; rw [if_pos rfl]
theorem ofR_long {p q : Int} (h : q ≠ 0) (h2 : (longB (ofX p q) || longB (ofY p q)) = true) : ofR p q = (0, 0, 10) := by unfold ofR; rw [if_neg h, if_pos h2]
theorem ofR_neg {p q : Int} (h : q ≠ 0) (h2 : (longB (ofX p q) || longB (ofY p q)) = false) (h3 : ofY p q < 0) : ofR p q = (-ofX p q, -ofY p q, 0) := by
  unfold ofR; rw [if_neg h, if_neg (by rw [h2]; decide), if_pos h3]
theorem ofR_pos {p q : Int} (h : q ≠ 0) (h2 : (longB (ofX p q) || longB (ofY p q)) = false) (h3 : ¬ofY p q < 0) : ofR p q = (ofX p q, ofY p q, 0) := by
  unfold ofR; rw [if_neg h, if_neg (by rw [h2]; decide), if_neg h3]
theorem g_pos {p q : Int} (h : q ≠ 0) : 1 ≤ g p q := by
  rw [g_def]; have := Nat.gcd_pos_of_pos_right p.natAbs (show 0 < q.natAbs by omega); omega
theorem tdiv_bd (p d : Int) (hd : 1 ≤ d) (h : -9223372036854775808 ≤ p ∧ p ≤ 9223372036854775807) : -9223372036854775808 ≤ p.tdiv d ∧ p.tdiv d ≤ 9223372036854775807 := by
  have h1 : (p.tdiv d).natAbs ≤ p.natAbs := by rw [Int.natAbs_tdiv]; exact Nat.div_le_self _ _
  have h2 : p.tdiv d < 0 → p < 0 := by
    intro hlt
    rcases Int.lt_or_le p 0 with h3 | h3
    · exact h3
    · exfalso; have := Int.tdiv_nonneg h3 (show 0 ≤ d by omega); omega
  have h3 : p ≤ 0 → p.tdiv d ≤ 0 := by
    intro hle
    have := Int.tdiv_nonneg (show 0 ≤ -p by omega) (show 0 ≤ d by omega)
    rw [Int.neg_tdiv] at this
    omega
  omega
/-- both are the least number, or the second is, and the first 0 -/
theorem g_over {p q : Int} (hp : -9223372036854775808 ≤ p ∧ p ≤ 9223372036854775807) (hq : -9223372036854775808 ≤ q ∧ q ≤ 9223372036854775807) (h0 : q ≠ 0) (h : ¬ g p q ≤ 9223372036854775807) :
    g p q = 9223372036854775808 ∧ q = -9223372036854775808 ∧ (p = 0 ∨ p = -9223372036854775808) := by
  have h1 := g_bd p q hp hq
  have h2 := g_le_right p q h0
  have h3 : q = -9223372036854775808 := by omega
  refine ⟨by omega, h3, ?_⟩
  by_cases hz : p = 0
  · exact .inl hz
  · have h4 := g_le_left p q hz; right; omega
theorem ofR_over0 {q : Int} (hq : -9223372036854775808 ≤ q ∧ q ≤ 9223372036854775807) (h0 : q ≠ 0) (h : ¬ g 0 q ≤ 9223372036854775807) : ofR 0 q = (0, 1, 0) := by
  obtain ⟨h1, rfl, _⟩ := g_over (p := 0) (by omega) hq h0 h
  have hx : ofX 0 (-9223372036854775808) = 0 := by unfold ofX; simp
  have hy : ofY 0 (-9223372036854775808) = -1 := by unfold ofY; rw [h1]; decide
  rw [ofR_neg (by omega) (by rw [hx, hy]; decide) (by rw [hy]; decide), hx, hy]; rfl
theorem ofR_over1 {p q : Int} (hp : -9223372036854775808 ≤ p ∧ p ≤ 9223372036854775807) (hq : -9223372036854775808 ≤ q ∧ q ≤ 9223372036854775807) (h0 : q ≠ 0) (h : ¬ g p q ≤ 9223372036854775807) (hz : p ≠ 0) : ofR p q = (1, 1, 0) := by
  obtain ⟨h1, rfl, h2⟩ := g_over hp hq h0 h
  obtain rfl : p = -9223372036854775808 := by omega
  have hx : ofX (-9223372036854775808) (-9223372036854775808) = -1 := by unfold ofX; rw [h1]; decide
  have hy : ofY (-9223372036854775808) (-9223372036854775808) = -1 := by unfold ofY; rw [h1]; decide
  rw [ofR_neg (by omega) (by rw [hx, hy]; decide) (by rw [hy]; decide), hx, hy]; rfl
def bothE (p q r s : Int) : Int := if (isR p q && isR r s) = true then 0 else 30
theorem mul_bd {a b m n : Int} (ha : -m ≤ a ∧ a ≤ m) (hb : -n ≤ b ∧ b ≤ n) : -(m * n) ≤ a * b ∧ a * b ≤ m * n := by
  have hm : 0 ≤ m := by omega
  have hn : 0 ≤ n := by omega
  have h1 : (a * b).natAbs ≤ (m * n).natAbs := by
    rw [Int.natAbs_mul, Int.natAbs_mul]; exact Nat.mul_le_mul (by omega) (by omega)
  have h2 : 0 ≤ m * n := Int.mul_nonneg hm hn
  omega
theorem mul60 {a b : Int} (ha : -1073741824 ≤ a ∧ a ≤ 1073741824) (hb : -1073741824 ≤ b ∧ b ≤ 1073741824) : -1152921504606846976 ≤ a * b ∧ a * b ≤ 1152921504606846976 := by
  have := mul_bd ha hb; omega
/-- what comes of two -/
def addR (p q r s : Int) : Int × Int × Int := if (isR p q && isR r s) = true then ofR (p * s + r * q) (q * s) else (0, 0, 30)
/-- what 'Do' makes of two: 0 adds, 1 takes off, 2 multiplies, 3 divides -/
def numP (k p q r s : Int) : Int := if k = 0 then p * s + r * q else if k = 1 then p * s - r * q else if k = 2 then p * r else p * s
def numQ (k _p q r s : Int) : Int := if k = 0 then q * s else if k = 1 then q * s else if k = 2 then q * s else q * r
def doR (k p q r s : Int) : Int × Int × Int := if (isR p q && isR r s) = true then ofR (numP k p q r s) (numQ k p q r s) else (0, 0, 30)
theorem doR_bad {k p q r s : Int} (h : ¬(isR p q && isR r s) = true) : doR k p q r s = (0, 0, 30) := by unfold doR; rw [if_neg h]
theorem doR_ok {k p q r s : Int} (h : (isR p q && isR r s) = true) : doR k p q r s = ofR (numP k p q r s) (numQ k p q r s) := by unfold doR; rw [if_pos h]
theorem addR_do (p q r s : Int) : addR p q r s = doR 0 p q r s := rfl
end Go.Proofs.YtcaeihfgdlffkaaGreatRRRRDoor.RatM

/- Plain mathematics of harmonic numbers in whole numbers. No program is in sight. -/
namespace Go.Proofs.YtcaeihfgdlffkaaGreatRRRRDoor.HarmM
open BigM GcdM RatM
def clamp (v lo hi : Int) : Int := if v < lo then lo else if hi < v then hi else v
def held (n : Int) : Int := if n < 0 then 0 else if 256 < n then 256 else n
theorem held_bd (n : Int) : 0 ≤ held n ∧ held n ≤ 256 := by unfold held; split <;> (try split) <;> omega
theorem held_clamp (n : Int) : clamp n 0 256 = held n := rfl
theorem held_held (n : Int) (h : 0 ≤ n) (h2 : n ≤ 256) : held n = n := by unfold held; split <;> (try split) <;> omega
def lowN : Nat → Int
  | 0 => 0
  | k + 1 => lowN k + 1073741824 / ((k : Int) + 1)
def brokenN : Nat → Int
  | 0 => 0
  | k + 1 => brokenN k + (if 0 < 1073741824 % ((k : Int) + 1) then 1 else 0)
theorem unit_bd (k : Nat) : 0 ≤ (1073741824 : Int) / ((k : Int) + 1) ∧ (1073741824 : Int) / ((k : Int) + 1) ≤ 1073741824 :=
  ⟨Int.ediv_nonneg (by omega) (by omega), Int.ediv_le_self _ (by omega)⟩
theorem lowN_bd (k : Nat) : 0 ≤ lowN k ∧ lowN k ≤ 1073741824 * k := by
  induction k with
  | zero => simp [lowN]
  | succ k ih => have := unit_bd k; simp only [lowN]; omega
theorem brokenN_bd (k : Nat) : 0 ≤ brokenN k ∧ brokenN k ≤ k := by
  induction k with
  | zero => simp [brokenN]
  | succ k ih => simp only [brokenN]; split <;> omega
def low (n : Int) : Int := lowN (held n).toNat
def brok (n : Int) : Int := brokenN (held n).toNat
theorem low_bd (n : Int) : 0 ≤ low n ∧ low n ≤ 274877906944 := by
  have := lowN_bd (held n).toNat; have := held_bd n; unfold low; omega
theorem brok_bd (n : Int) : 0 ≤ brok n ∧ brok n ≤ 256 := by
  have := brokenN_bd (held n).toNat; have := held_bd n; unfold brok; omega
/-- a share, rounded up -/
theorem ceil_eq (x k : Int) (hk : 0 < k) : (x + k - 1) / k = x / k + (if 0 < x % k then 1 else 0) := by
  have h1 := Int.mul_ediv_add_emod x k
  have h2 := Int.emod_nonneg x (show k ≠ 0 by omega)
  have h3 := Int.emod_lt_of_pos x hk
  split
  · rw [show x + k - 1 = (x % k - 1) + k * (x / k + 1) by rw [Int.mul_add]; omega, Int.add_mul_ediv_left _ _ (by omega), Int.ediv_eq_zero_of_lt (by omega) (by omega)]; omega
  · rw [show x + k - 1 = (k - 1) + k * (x / k) by omega, Int.add_mul_ediv_left _ _ (by omega), Int.ediv_eq_zero_of_lt (by omega) (by omega)]; omega
def endsLo (n l : Int) : Int := if n < 2 then 0 else 2 * l - (2147483648 * (n - 1) / n + if 0 < 2147483648 * (n - 1) % n then 1 else 0)
def endsHi (n l b : Int) : Int := if n < 2 then 0 else 2 * (l + b) - 2147483648 * (n - 1) / n
def eLo (n : Int) : Int := endsLo (held n) (low (held n - 1))
def eHi (n : Int) : Int := endsHi (held n) (low (held n - 1)) (brok (held n - 1))
theorem share_bd (n : Int) (h : 2 ≤ n) : 0 ≤ 2147483648 * (n - 1) / n ∧ 2147483648 * (n - 1) / n < 2147483648 := by
  refine ⟨Int.ediv_nonneg (by omega) (by omega), Int.ediv_lt_of_lt_mul (by omega) ?_⟩
  omega
theorem lowN_ge (k : Nat) (h : 1 ≤ k) : 1073741824 ≤ lowN k := by
  induction k with
  | zero => omega
  | succ k ih =>
    have := unit_bd k
    rcases Nat.eq_zero_or_pos k with rfl | h1
    · decide
    · have := ih h1; simp only [lowN]; omega
theorem low_ge (n : Int) (h : 1 ≤ n) : 1073741824 ≤ low n := by
  unfold low; exact lowN_ge _ (by unfold held; split <;> (try split) <;> omega)
theorem eLo_bd (n : Int) : 0 ≤ eLo n ∧ eLo n ≤ 549755813888 := by
  have h := low_bd (held n - 1)
  unfold eLo endsLo
  split
  · omega
  · have h2 := share_bd (held n) (by omega)
    have h3 := low_ge (held n - 1) (by omega)
    split <;> omega
theorem eHi_bd (n : Int) : 0 ≤ eHi n ∧ eHi n ≤ 549755814400 := by
  have h := low_bd (held n - 1)
  have h1 := brok_bd (held n - 1)
  unfold eHi endsHi
  split
  · omega
  · have h2 := share_bd (held n) (by omega)
    have h3 := low_ge (held n - 1) (by omega)
    omega
def norm (n : Int) : Int := (eLo n + eHi n) / 2
/-- the harmonic number as a ratio, behind k points: its parts, and an error -/
def fracN : Nat → Int × Int × Int
  | 0 => (0, 1, 0)
  | k + 1 => if (fracN k).2.2 ≠ 0 then fracN k else
      if (addR (fracN k).1 (fracN k).2.1 1 ((k : Int) + 1)).2.2 ≠ 0 then (0, 0, (addR (fracN k).1 (fracN k).2.1 1 ((k : Int) + 1)).2.2) else addR (fracN k).1 (fracN k).2.1 1 ((k : Int) + 1)
/-- the harmonic number exactly: what is to be divided, by what -/
def botN : Nat → Int
  | 0 => 1
  | k + 1 => botN k * ((k : Int) + 1)
def topN : Nat → Int
  | 0 => 0
  | k + 1 => topN k * ((k : Int) + 1) + botN k
end Go.Proofs.YtcaeihfgdlffkaaGreatRRRRDoor.HarmM
