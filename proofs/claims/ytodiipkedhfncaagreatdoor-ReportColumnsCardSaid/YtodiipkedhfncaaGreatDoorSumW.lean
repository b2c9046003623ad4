/- num.Sum and the spread of a column's numbers, walked (printed by mksum.py). -/
import Derived.Test.YtodiipkedhfncaaGreatDoorLnpW
namespace Go.Proofs.YtodiipkedhfncaaGreatDoor.SumW
set_option linter.unusedVariables false
set_option linter.unusedSimpArgs false
open Go.RowKit Base BigZ RptN RptM RptC WidX SeqM LngW HzW RotW LnpW ScoX

/-- three cells hold a long sum -/
def Lg (w : World) (B : Nat) (z : Int) : Prop := (w.cell? ⟨B, 0, none⟩ = some (.int .u64 (wd0 z)) ∧ w.cell? ⟨B, 1, none⟩ = some (.int .u64 (wd1 z)) ∧ w.cell? ⟨B, 2, none⟩ = some (.int .u64 (wd2 z))) ∧
  (w.frozen? ⟨B, 0, none⟩ = false ∧ w.frozen? ⟨B, 1, none⟩ = false ∧ w.frozen? ⟨B, 2, none⟩ = false)
theorem Lg.below {w w' : World} {B : Nat} {z : Int} (h : Lg w B z) (hb : Below w.heap.size w w') : Lg w' B z := by
  obtain ⟨⟨c0, c1, c2⟩, f0, f1, f2⟩ := h
  have hB : B < w.heap.size := World.block_lt_of_cell? w _ c0
  exact ⟨⟨keepA hb c0, keepA hb c1, keepA hb c2⟩, (hb.frozen (p := ⟨B, 0, none⟩) hB).trans f0, (hb.frozen (p := ⟨B, 1, none⟩) hB).trans f1, (hb.frozen (p := ⟨B, 2, none⟩) hB).trans f2⟩
theorem lg_set {w : World} {B : Nat} {z z' : Int} (h : Lg w B z) : Lg (((w.setCell ⟨B, 0, none⟩ (.int .u64 (wd0 z'))).setCell ⟨B, 1, none⟩ (.int .u64 (wd1 z'))).setCell ⟨B, 2, none⟩ (.int .u64 (wd2 z'))) B z' := by
  obtain ⟨⟨c0, c1, c2⟩, f0, f1, f2⟩ := h
  refine ⟨⟨?_, ?_, ?_⟩, ?_, ?_, ?_⟩ <;> go_simp
theorem plus_any (z x : Int) (hx : -9223372036854775808 ≤ x ∧ x ≤ 9223372036854775807) (w : World) :
    Calls Tryz.prog 90 #[LV z, .int .u64 0, .int .u64 (x.natAbs : Int), .bool (decide (x < 0))] w fun e w' => e = .returned (LV (z + x)) ∧ Below w.heap.size w w' := by
  by_cases h : x < 0
  · rw [decide_eq_true h]
    exact plus_neg z x (x.natAbs : Int) (by omega) (by omega) (by omega) w
  · rw [decide_eq_false h, show ((x.natAbs : Nat) : Int) = x by omega]
    exact plus_pos z x (by omega) (by omega) w
theorem wd_zero : wd0 0 = 0 ∧ wd1 0 = 0 ∧ wd2 0 = 0 := by decide
def I64 (x : Int) : Prop := -9223372036854775808 ≤ x ∧ x ≤ 9223372036854775807
def SuRel (l : List Int) (w : World) (i : Value) (wr : World) : Prop := ∃ k : Nat, k ≤ l.length ∧ i = .int .i64 (k : Int) ∧ Lg wr w.heap.size (sum1 (l.take k)) ∧ Below w.heap.size w wr ∧ w.heap.size < wr.heap.size
set_option maxRecDepth 100000 in
set_option maxHeartbeats 4000000 in
theorem Sum_any (v : Value) (l : List Int) (w : World) (h : Seq 1 inC w 0 w.heap.size v l) (hf : ∀ x ∈ l, I64 x) (hs : I64 (sum1 l)) :
    Calls Tryz.prog 57 #[v] w fun e w' => e = .returned (.tuple #[.int .i64 (sum1 l), .int .i64 0]) ∧ Below w.heap.size w w' := by
  obtain ⟨A, cap, rfl, hc1, hc2, hr, _⟩ := h
  unfold maxLen at hc2
  have HR := Lib.hid hr
  have HF := Lib.hid hf
  have HS := Lib.hid hs
  obtain ⟨m, hm⟩ : ∃ m, l.length = m := ⟨_, rfl⟩
  rw [hm] at hc1 ⊢
  have HM := Lib.hid hm
  clear hr hf hm hs
  obtain ⟨sm, hsm⟩ : ∃ s, sum1 l = s := ⟨_, rfl⟩
  have HSM := Lib.hid hsm
  rw [hsm] at HS ⊢
  clear hsm
  go_enter Tryz.func57, Tryz.ntmps57
  go_wp2
  go_loopw [9] (fun i wr => SuRel l w i wr) (fun i _ => m - (intOf i).toNat)
  case atStart =>
    refine ⟨0, Nat.zero_le _, rfl, ?_, below_a1 _ _, by simp⟩
    show Lg _ _ 0
    unfold Lg
    rw [wd_zero.1, wd_zero.2.1, wd_zero.2.2]
    refine ⟨⟨?_, ?_, ?_⟩, ?_, ?_, ?_⟩ <;> go_simp
  case round =>
    obtain ⟨k, hk, rfl, hL, hb, hlt4⟩ := hrel
    rw [HM.out] at hk
    have HL := Lib.hid hL
    have HB := Lib.hid hb
    by_cases hlt : k < m
    · obtain ⟨ad, x, rfl, _, hbk, hx, hc⟩ := rdI HR.out (i := k) (by rw [HM.out]; exact hlt)
      have hxr := HF.out x (List.mem_of_getElem? hx)
      have c0 : wr.cell? (ad.add k) = some (.int .i64 x) := (hb.cell (by rw [Base.add_block]; exact hbk)).trans hc
      have HT := Lib.hid (show sum1 (l.take (k + 1)) = sum1 (l.take k) + x by rw [SeqM.take_next hx, sum1_snoc])
      have HP := Lib.hid (fun W => plus_any (sum1 (l.take k)) x hxr W)
      have HZ := Lib.hid (fun W => size_any x W hxr.1 hxr.2)
      generalize sum1 (l.take k) = s at *
      clear hc hx hb hL
      obtain ⟨⟨s0, s1, s2⟩, f0, f1, f2⟩ := HL.out
      have CL := Lib.hid (And.intro s0 (And.intro s1 s2))
      have HW := Lib.hid (show LV s = .agg #[.int .u64 (wd0 s), .int .u64 (wd1 s), .int .u64 (wd2 s)] from rfl)
      go_wp2_with fail
      refine regionZ 6 (fun w' => w'.cell? ⟨w.heap.size, 0, none⟩ = some (.int .u64 (wd0 s)) ∧ w'.cell? ⟨w.heap.size, 1, none⟩ = some (.int .u64 (wd1 s)) ∧ w'.cell? ⟨w.heap.size, 2, none⟩ = some (.int .u64 (wd2 s))) (by kernel_rfl) (CL.out) (fun hH => ?_)
      refine takeZ 0 (v := ?_) (gi rfl) (by kernel_rfl) (fun _ _ _ h => h) hH (.inl ⟨rfl, fun w hW => ?_⟩) ?_
      rotate_left
      · (obtain ⟨hW1, hW2, hW3⟩ := hW; go_simp; try with_reducible rfl)
      try simp only [Act.put, List.setIfInBounds_toArray, List.set_cons_zero, List.set_cons_succ]
      refine takeZ 1 (v := ?_) (gi rfl) (by kernel_rfl) (fun _ _ _ h => h) hH (.inl ⟨rfl, fun w hW => ?_⟩) ?_
      rotate_left
      · (go_simp; try with_reducible rfl)
      try simp only [Act.put, List.setIfInBounds_toArray, List.set_cons_zero, List.set_cons_succ]
      refine takeZ 3 (v := ?_) (gi rfl) (by kernel_rfl) (fun _ _ _ h => h) hH (.inl ⟨rfl, fun w hW => ?_⟩) ?_
      rotate_left
      · (go_simp; try with_reducible rfl)
      try simp only [Act.put, List.setIfInBounds_toArray, List.set_cons_zero, List.set_cons_succ]
      refine takeZ 4 (v := ?_) (gi rfl) (by kernel_rfl) (fun _ _ _ h => h) hH (.inl ⟨rfl, fun w hW => ?_⟩) ?_
      rotate_left
      · (go_simp; try with_reducible rfl)
      try simp only [Act.put, List.setIfInBounds_toArray, List.set_cons_zero, List.set_cons_succ]
      refine oneZ 2 (by kernel_rfl) (gi rfl) (fun K hK => ?_)
      try simp only [Act.put, List.setIfInBounds_toArray, List.set_cons_zero, List.set_cons_succ]
      go_simp
      refine (HZ.out _).mono ?_
      rintro e w1 ⟨rfl, rfl⟩
      refine hK.out _ _ (fun _ => CL.out) (fun hH => ?_)
      replace hH := hH (by decide)
      clear hK K
      try simp only [Act.put, List.setIfInBounds_toArray, List.set_cons_zero, List.set_cons_succ]
      refine oneZ 5 (by kernel_rfl) (gi rfl) (fun K hK => ?_)
      try simp only [Act.put, List.setIfInBounds_toArray, List.set_cons_zero, List.set_cons_succ]
      go_simp
      rw [← HW.out]
      refine (HP.out _).mono ?_
      rintro e w1 ⟨rfl, hb1⟩
      have HL1 := Lib.hid (HL.out.below (w' := w1) ((Below.refl _ wr).drew.trans (hb1.mono (Nat.le_refl _))))
      have HB1 := Lib.hid (show Below w.heap.size w w1 from bt ((Below.refl _ wr).drew.trans hb1) HB.out)
      have HS1 := Lib.hid (show w.heap.size < w1.heap.size from Nat.lt_of_lt_of_le hlt4 hb1.size)
      clear hb1
      refine hK.out _ _ (fun _ => HL1.out.1) (fun hH => ?_)
      replace hH := hH (by decide)
      clear hK K
      try simp only [Act.put, List.setIfInBounds_toArray, List.set_cons_zero, List.set_cons_succ]
      refine oneZ 6 (by kernel_rfl) (gi rfl) (fun K hK => ?_)
      try simp only [Act.put, List.setIfInBounds_toArray, List.set_cons_zero, List.set_cons_succ]
      obtain ⟨⟨q0, q1, q2⟩, g0, g1, g2⟩ := HL1.out
      unfold LV
      go_simp
      refine hK.out _ _ (fun h => absurd rfl h) (fun hH => ?_)
      clear hK K
      try simp only [Act.put, List.setIfInBounds_toArray, List.set_cons_zero, List.set_cons_succ]
      refine doneZ (by kernel_rfl) ?_ _
      clear hH
      go_wp2_with fail
      refine ⟨⟨k + 1, by rw [HM.out]; omega, by go_num, by rw [HT.out]; exact lg_set HL1.out, ((HB1.out.setCell (p := ⟨w.heap.size, 0, none⟩) (Nat.le_refl _) _).setCell (p := ⟨w.heap.size, 1, none⟩) (Nat.le_refl _) _).setCell (p := ⟨w.heap.size, 2, none⟩) (Nat.le_refl _) _, by simpa using HS1.out⟩, by simp [intOf]; omega⟩
    · obtain rfl : k = m := by omega
      rw [List.take_of_length_le (by rw [HM.out]; omega), HSM.out] at HL hL
      obtain ⟨⟨s0, s1, s2⟩, f0, f1, f2⟩ := hL
      have HP := Lib.hid (fun W => fits_any sm HS.out.1 HS.out.2 W)
      unfold LV at HP
      clear hb
      go_wp2_with fail
      refine (HP.out _).mono ?_
      rintro e w2 ⟨rfl, hb2⟩
      go_wp2
      go_ret2
      exact ⟨rfl, bt hb2 HB.out⟩
end Go.Proofs.YtodiipkedhfncaaGreatDoor.SumW
