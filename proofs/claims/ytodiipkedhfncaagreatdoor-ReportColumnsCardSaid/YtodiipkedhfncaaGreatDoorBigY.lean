/- The walks of copseref01.Turn, Int, Fits, Sub. -/
import Derived.Test.YtodiipkedhfncaaGreatDoorBigZ
namespace Go.Proofs.YtodiipkedhfncaaGreatDoor.BigZ
set_option linter.unusedVariables false
open Go.RowKit Base BigM BigW

theorem sg_not (a : Bool) (N : Int) : sg (!a) N = -sg a N := by cases a <;> simp [sg]
theorem below_alloc2 (w : World) (a b : Obj) : Below w.heap.size w ((w.alloc a).alloc b) :=
  ((Below.refl _ _).alloc (Nat.le_refl _) a).alloc (by simp) b
theorem below_alloc1 (w : World) (a : Obj) : Below w.heap.size w (w.alloc a) := (Below.refl _ _).alloc (Nat.le_refl _) a

set_option maxHeartbeats 1000000 in
theorem Turn_any (va : Value) (N : Int) (s : Nat) (w : World) (ha : Whole w w.heap.size va N s) :
    Calls Tryz.prog 119 #[va] w fun e w' => (∃ v, e = .returned v ∧ Whole w' w'.heap.size v (-N) s) ∧ Below w.heap.size w w' := by
  obtain ⟨na, ua, N, rfl, ha, rfl⟩ := ha
  obtain ⟨A, n, ca, rfl⟩ := ha.form
  have HA := Lib.hid ha
  clear ha
  go_enter Tryz.func119, Tryz.ntmps119
  go_wp2
  refine bodyPost_ret (v := .agg #[.bool (!na), .slice A n ca]) (by simp [results, Tryz.results119, go_sem]) rfl ?_
  exact ⟨⟨_, rfl, ⟨_, _, _, rfl, HA.out.up (below_alloc2 _ _ _), (sg_not na N).symm⟩⟩, below_alloc2 _ _ _⟩

/-- a block of two cells, behind a call that leaves what was there -/
theorem keepR {W0 w5 : World} (hb : Below W0.heap.size W0 w5) {r : Nat} {c0 c1 : Value} (h0 : W0.cell? ⟨r, 0, none⟩ = some c0) (h1 : W0.cell? ⟨r, 1, none⟩ = some c1) (f0 : W0.frozen? ⟨r, 0, none⟩ = false) (f1 : W0.frozen? ⟨r, 1, none⟩ = false) :
    w5.cell? ⟨r, 0, none⟩ = some c0 ∧ w5.cell? ⟨r, 1, none⟩ = some c1 ∧ w5.frozen? ⟨r, 0, none⟩ = false ∧ w5.frozen? ⟨r, 1, none⟩ = false ∧ r + 1 ≤ w5.heap.size := by
  have hr := World.block_lt_of_cell? W0 _ h0
  exact ⟨cell_at_below hb _ _ _ h0, cell_at_below hb _ _ _ h1, free_at_below hb _ _ f0 hr, free_at_below hb _ _ f1 hr, by have := hb.size; simp at hr; omega⟩
theorem below_setR {w W0 w5 : World} (h : Below w.heap.size w W0) (hb : Below W0.heap.size W0 w5) {r : Nat} (hr : w.heap.size ≤ r) (v0 v1 : Value) (o0 o1 : Nat) :
    Below w.heap.size w ((w5.setCell ⟨r, o0, none⟩ v0).setCell ⟨r, o1, none⟩ v1) := ((h.trans (hb.mono h.size)).setCell hr v0).setCell hr v1
theorem whole_setR {W0 w5 : World} {v : Value} {N Z : Int} {s : Nat} {neg : Bool} (h : Big w5 W0.heap.size w5.heap.size v N s) {r : Nat} (hr : r < W0.heap.size) (hz : Z = sg neg N) (v0 v1 : Value) (o0 o1 : Nat) :
    Whole ((w5.setCell ⟨r, o0, none⟩ v0).setCell ⟨r, o1, none⟩ v1) ((w5.setCell ⟨r, o0, none⟩ v0).setCell ⟨r, o1, none⟩ v1).heap.size (.agg #[.bool neg, v]) Z s := by
  have h1 := (h.set_ ⟨r, o0, none⟩ (.inl hr) v0).set_ ⟨r, o1, none⟩ (.inl hr) v1
  exact ⟨neg, v, N, rfl, h1.more (Nat.zero_le _) (by simp [World.setCell]) (Nat.le_refl _), hz⟩

set_option maxHeartbeats 1000000 in
theorem Int_any (n : Int) (w : World) (h0 : -9223372036854775808 ≤ n) (h1 : n ≤ 9223372036854775807) :
    Calls Tryz.prog 63 #[.int .i64 n] w fun e w' => (∃ v, e = .returned v ∧ Whole w' w'.heap.size v n 4) ∧ Below w.heap.size w w' := by
  by_cases hn : n < 0
  · go_enter Tryz.func63, Tryz.ntmps63
    go_wp2_with fail
    refine (Of_any _ _ (by omega) (by omega)).mono ?_
    rintro e w5 ⟨⟨v2, rfl, hv2⟩, hb5⟩
    obtain ⟨A5, n5, c5, rfl⟩ := hv2.form
    have HV2 := Lib.hid hv2
    clear hv2
    obtain ⟨k1, k2, k3, k4, k5⟩ := keepR hb5 (r := w.heap.size) (by go_simp; rfl) (by go_simp; rfl) (by go_simp) (by go_simp)
    go_wp2
    refine bodyPost_ret (v := .agg #[.bool true, .slice A5 n5 c5]) (by simp [results, Tryz.results63, go_sem, k1, k2]) rfl ?_
    exact ⟨⟨_, rfl, whole_setR HV2.out (by simp) (by simp [sg]; omega) _ _ _ _⟩, below_setR (below_alloc1 _ _) hb5 (Nat.le_refl _) _ _ _ _⟩
  · go_enter Tryz.func63, Tryz.ntmps63
    go_wp2_with fail
    refine (Of_any _ _ (by omega) (by omega)).mono ?_
    rintro e w5 ⟨⟨v2, rfl, hv2⟩, hb5⟩
    obtain ⟨A5, n5, c5, rfl⟩ := hv2.form
    have HV2 := Lib.hid hv2
    clear hv2
    obtain ⟨k1, k2, k3, k4, k5⟩ := keepR hb5 (r := w.heap.size) (by go_simp; rfl) (by go_simp; rfl) (by go_simp) (by go_simp)
    go_wp2
    refine bodyPost_ret (v := .agg #[.bool false, .slice A5 n5 c5]) (by simp [results, Tryz.results63, go_sem, k1, k2]) rfl ?_
    exact ⟨⟨_, rfl, whole_setR HV2.out (by simp) (by simp [sg]) _ _ _ _⟩, below_setR (below_alloc1 _ _) hb5 (Nat.le_refl _) _ _ _ _⟩

def two63 : Int := 9223372036854775808
def FitsRel (neg : Bool) (N : Int) (l : List Int) (n i : Value) : Prop :=
  (i = .int .i64 (-1) ∧ n = .int .i64 (sg neg N)) ∨ ∃ j : Nat, j < l.length ∧ i = .int .i64 j ∧ n = .int .i64 (sg neg (val (l.drop (j + 1))))
theorem fits_next {neg : Bool} {N : Int} {l : List Int} {j : Nat} (hj : j < l.length) (hv : val l = N) (n i : Int) (hn : n = sg neg (val (l.drop j))) (hi : i = (j : Int) - 1) : FitsRel neg N l (.int .i64 n) (.int .i64 i) := by
  subst hn hi
  cases j with
  | zero => exact .inl ⟨rfl, by simp [hv]⟩
  | succ j => exact .inr ⟨j, by omega, by go_num, rfl⟩

set_option maxHeartbeats 2000000 in
theorem Fits_any (va : Value) (Z : Int) (s : Nat) (w : World) (ha : Whole w w.heap.size va Z s) (hs : s ≤ 1000000) :
    Calls Tryz.prog 117 #[va] w fun e w' => e = .returned (.tuple #[.int .i64 (fitsV Z), .int .i64 (fitsE Z)]) ∧ Below w.heap.size w w' := by
  obtain ⟨neg, ua, N, rfl, ha, hZ⟩ := ha
  have h0N := ha.nonneg
  obtain ⟨A, n, ca, l, rfl, hat⟩ := ha
  have hns := hat.small
  have HAT := Lib.hid hat
  have HA := Lib.hid (show Big w 0 w.heap.size (.slice A n ca) N s from ⟨A, n, ca, l, rfl, hat⟩)
  have HZ := Lib.hid hZ
  clear hat hZ
  go_enter Tryz.func117, Tryz.ntmps117
  go_wp2_with fail
  refine (Of_any _ _ (by omega) (by omega)).mono ?_
  rintro e w5 ⟨⟨v2, rfl, hv2⟩, hb5⟩
  obtain ⟨A5, n5, c5, rfl⟩ := hv2.form
  have HV2 := Lib.hid hv2
  clear hv2
  obtain ⟨k1, k2, k3, k4, k5⟩ := keepR hb5 (r := w.heap.size) (by go_simp; rfl) (by go_simp; rfl) (by go_simp) (by go_simp)
  go_wp2_with fail
  refine (Order_any _ _ N two63 s 4 _ (by exact HA.out.up ((below_alloc1 _ _).trans (hb5.mono (below_alloc1 _ _).size))) (by exact HV2.out.more (Nat.zero_le _) (Nat.le_refl _) (Nat.le_refl _)) hs (by omega)).mono ?_
  rintro e w6 ⟨rfl, q, rfl⟩
  obtain ⟨o, ho⟩ : ∃ o, ord N two63 = o := ⟨_, rfl⟩
  rw [ho]
  have hcase : (o = -1 ∧ N < two63) ∨ (o = 0 ∧ N = two63) ∨ (o = 1 ∧ two63 < N) := by
    rw [← ho]
    rcases Int.lt_trichotomy N two63 with h | h | h
    · exact .inl ⟨ord_lt h, h⟩
    · exact .inr (.inl ⟨ord_eq h, h⟩)
    · exact .inr (.inr ⟨ord_gt h, h⟩)
  have HB5 := Lib.hid ((below_alloc1 w (.cells #[.bool neg, .slice A n ca] 104)).trans (hb5.mono (below_alloc1 _ _).size))
  clear ho hb5
  by_cases hout : (o = 1) ∨ (o = 0 ∧ neg = false)
  · have HE := Lib.hid (fits_out (z := Z) (by rw [HZ.out]; unfold two63 at hcase; cases neg <;> simp [sg] at hout ⊢ <;> omega))
    rcases hcase with ⟨rfl, h⟩ | ⟨rfl, h⟩ | ⟨rfl, h⟩
    · exfalso; simp at hout
    · obtain rfl : neg = false := by simpa using hout
      clear h hout
      go_wp2
      go_ret2
      exact ⟨ret_int2 HE.out.1.symm HE.out.2.symm, below_drewN HB5.out q⟩
    · clear h hout
      go_wp2
      go_ret2
      exact ⟨ret_int2 HE.out.1.symm HE.out.2.symm, below_drewN HB5.out q⟩
  · have hN : (neg = true → N ≤ 9223372036854775808) ∧ (neg = false → N ≤ 9223372036854775807) := by
      unfold two63 at hcase; cases neg <;> simp at hout ⊢ <;> omega
    have HE := Lib.hid (fits_in (z := Z) (by rw [HZ.out]; cases neg <;> simp [sg] at hN ⊢ <;> omega) (by rw [HZ.out]; cases neg <;> simp [sg] at hN ⊢ <;> omega))
    have HN := Lib.hid hN
    have hog : o ≤ 0 := by omega
    have hoz : o = 0 → neg = true := by intro h; subst h; simpa using hout
    have HB6 := Lib.hid (below_drewN HB5.out q)
    have HRD := Lib.hid (HAT.out.rd.below HB6.out)
    have HL := Lib.hid HAT.out.len
    have H0 : FitsRel neg N l (.int .i64 0) (.int .i64 ((n : Int) - 1)) := by
      cases n with
      | zero =>
        have : l = [] := List.eq_nil_of_length_eq_zero HL.out
        subst this
        have hv := HAT.out.val
        simp [val] at hv
        exact .inl ⟨rfl, by rw [← hv]; cases neg <;> rfl⟩
      | succ n => exact .inr ⟨n, by rw [HL.out]; omega, by go_num, by rw [List.drop_of_length_le (by rw [HL.out]; omega)]; cases neg <;> rfl⟩
    have H0 := Lib.hid H0
    have k1' : (w5.drewN q).cell? ⟨w.heap.size, 0, none⟩ = some (.bool neg) := k1
    have k2' : (w5.drewN q).cell? ⟨w.heap.size, 1, none⟩ = some (.slice A n ca) := k2
    clear k1 k2 k3 k4 hN hcase hout
    generalize hW : w5.drewN q = W at *
    have HW := Lib.hid hW
    clear hW
    cases neg
    all_goals
      by_cases hz : o = 0
      all_goals first
        | (exfalso; have := hoz hz; cases this; done)
        | skip
      all_goals
        have hz2 : (o == 0) = decide (o = 0) := rfl
        clear hoz
        first
        | (subst hz; go_wp2)
        | (have hz3 : (o == 0) = false := by simpa using hz
           clear hz hz2
           go_wp2)
        go_loop [6, 7] (fun m i => FitsRel _ N l m i) (fun _ i => (intOf i + 1).toNat)
        case atStart => exact H0.out
        case round =>
          rcases hrel with ⟨rfl, rfl⟩ | ⟨j, hj, rfl, rfl⟩
          · go_wp2
            go_ret2
            exact ⟨ret_int2 (by rw [HE.out.1, HZ.out]) HE.out.2.symm, HB6.out⟩
          · have hjn : j < n := by rw [HL.out] at hj; exact hj
            obtain ⟨ad, d, rfl, hbl, hcell, HX⟩ := rd_at HRD.out hjn
            have hdd : 0 ≤ d ∧ d < 65536 := by rw [← HX.out]; exact dig_getD HAT.out.canon.1 j
            have hvd := val_drop l j hj
            rw [HX.out] at hvd
            have hle := val_drop_le HAT.out.canon.1 j (by omega)
            rw [HAT.out.val] at hle
            have hv0 := val_nonneg (dig_drop HAT.out.canon.1 (j + 1))
            have HJ := Lib.hid hj
            obtain ⟨V, hV⟩ : ∃ V, val (l.drop (j + 1)) = V := ⟨_, rfl⟩
            rw [hV] at hvd hv0
            rw [hvd] at hle
            have HVD := Lib.hid hvd
            have HVV := Lib.hid hV
            have hN := HN.out
            simp only [sg, hV]
            simp at hN
            clear hvd hj hV
            go_wp2
            exact ⟨fits_next HJ.out HAT.out.val _ _ (by rw [HVD.out]; simp only [sg]; first | (simp; omega) | omega) rfl, by simp only [intOf]; omega⟩
end Go.Proofs.YtodiipkedhfncaaGreatDoor.BigZ
