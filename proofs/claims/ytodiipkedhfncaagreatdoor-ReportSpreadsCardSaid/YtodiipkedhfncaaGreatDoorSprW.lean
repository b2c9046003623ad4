/- The document's spread of numbers, walked (printed by mkspr.py). -/
import Derived.Test.YtodiipkedhfncaaGreatDoorBigZ
import Derived.Test.YtodiipkedhfncaaGreatDoorBigY
import Derived.Test.YtodiipkedhfncaaGreatDoorRptC
import Derived.Test.YtodiipkedhfncaaGreatDoorSeqM
import Derived.Test.YtodiipkedhfncaaGreatDoorHyW
import Derived.Test.YtodiipkedhfncaaGreatDoorRotW
namespace Go.Proofs.YtodiipkedhfncaaGreatDoor.SprW
set_option linter.unusedVariables false
set_option linter.unusedSimpArgs false
open Go.RowKit Base BigM BigW BigZ RptM RptC SeqM HyW RotW

theorem pw8 : pw 8 = 340282366920938463463374607431768211456 := by decide
set_option maxRecDepth 100000 in
theorem square_any (n : Int) (hn : -9223372036854775808 ≤ n ∧ n ≤ 9223372036854775807) (w : World) :
    Calls Tryz.prog 37 #[.int .i64 n] w fun e w' => (∃ v, e = .returned v ∧ Big w' 0 w'.heap.size v (n * n) 8) ∧ Below w.heap.size w w' := by
  go_enter Tryz.func37, Tryz.ntmps37
  go_wp2_with fail
  refine (Int_any n _ hn.1 hn.2).mono ?_
  rintro e w1 ⟨⟨v1, rfl, hv1⟩, hb1⟩
  go_wp2_with fail
  refine (Int_any n _ hn.1 hn.2).mono ?_
  rintro e w2 ⟨⟨v2, rfl, hv2⟩, hb2⟩
  go_wp2_with fail
  refine (Product_any v1 v2 n n 4 4 w2 ((hv1.below hb2 (Nat.le_refl _)).more hb2.size (Nat.le_refl _)) hv2 (by omega) (by omega)).mono ?_
  rintro e w3 ⟨⟨v3, rfl, hv3⟩, hb3⟩
  obtain ⟨neg, u, N, rfl, hu, hz⟩ := hv3
  have hN := hu.nonneg
  have hsq : 0 ≤ n * n := by
    rcases Int.le_total 0 n with h | h
    · exact Int.mul_nonneg h h
    · exact Int.mul_nonneg_of_nonpos_of_nonpos h h
  have hNn : N = n * n := by
    cases neg
    · rw [hz]; rfl
    · have : n * n = -N := by rw [hz]; rfl
      omega
  subst hNn
  obtain ⟨A, n0, c0, rfl⟩ := hu.form
  have hfl : ∀ W, (Instr.field 104 (.agg #[.bool neg, .slice A n0 c0]) 1).run Tryz.prog W = .ok (.slice A n0 c0) W := fun W => by kernel_rfl
  go_wp2
  go_ret
  exact ⟨⟨_, rfl, hu⟩, bt hb3 (bt hb2 hb1)⟩
theorem apart_le {x : Int} {l : List Int} (hx : -2147483648 ≤ x ∧ x ≤ 2147483647) (h : Nm l) : apart x l ≤ (l.length : Int) * 18446744073709551616 := by
  induction l using snoc_ind with
  | h0 => simp [apart]
  | h l y ih =>
    have h1 := ih (fun z hz => h z (by simp [hz]))
    have h2 := h y (by simp)
    have h3 : (x - y) * (x - y) ≤ 18446744073709551616 := by
      have e1 : (x - y).natAbs ≤ 4294967296 := by omega
      have e2 := Nat.mul_le_mul e1 e1
      rw [← Int.natAbs_mul] at e2
      omega
    rw [apart_snoc, List.length_append]
    simp only [List.length_cons, List.length_nil, Int.natCast_add, Int.natCast_one, Int.natCast_zero, Int.zero_add]
    omega
theorem part_bd {l : List Int} (h : Nm l) (hl : l.length ≤ 256) {i k : Nat} (hi : i < l.length) : (0 ≤ pairs [] (l.take i) ∧ 0 ≤ apart l[i] (l.take k)) ∧ pairs [] (l.take i) + apart l[i] (l.take k) < 340282366920938463463374607431768211456 := by
  have h1 := spread_bd (h.take i) (by rw [List.length_take]; omega)
  have h2 := apart_le (h _ (List.getElem_mem hi)) (h.take k)
  have h3 := apart_ge l[i] (l.take k)
  have h4 : ((l.take k).length : Int) * 18446744073709551616 ≤ 256 * 18446744073709551616 := by
    refine Int.mul_le_mul_of_nonneg_right ?_ (by omega)
    rw [List.length_take]; omega
  exact ⟨⟨h1.1.1, h3⟩, by omega⟩
def O1Rel (l : List Int) (w : World) (i s : Value) (wr : World) : Prop := ∃ k : Nat, k ≤ l.length ∧ i = .int .i64 k ∧ Big wr 0 wr.heap.size s (pairs [] (l.take k)) 8 ∧ Below w.heap.size w wr
def O2Rel (l : List Int) (i : Nat) (hi : i < l.length) (w : World) (k s : Value) (wr : World) : Prop := ∃ j : Nat, j ≤ i ∧ k = .int .i64 j ∧ Big wr 0 wr.heap.size s (pairs [] (l.take i) + apart l[i] (l.take j)) 8 ∧ Below w.heap.size w wr
set_option maxRecDepth 100000 in
set_option maxHeartbeats 4000000 in
theorem RSpread_any (v : Value) (l : List Int) (w : World) (h : Seq 1 inC w 0 w.heap.size v l) (hf : Nm l) (hl : l.length ≤ 256) :
    Calls Tryz.prog 15 #[v] w fun e w' => (∃ u, e = .returned u ∧ Big w' 0 w'.heap.size u (pairs [] l) 8) ∧ Below w.heap.size w w' := by
  obtain ⟨A, cap, rfl, hc1, hc2, hr, _⟩ := h
  unfold maxLen at hc2
  have HR := Lib.hid hr
  have HF := Lib.hid hf
  have HLT := Lib.hid hl
  obtain ⟨m, hm⟩ : ∃ m, l.length = m := ⟨_, rfl⟩
  rw [hm] at hc1 hl ⊢
  have HM := Lib.hid hm
  clear hr hf hm
  go_enter Tryz.func15, Tryz.ntmps15
  go_wp2
  go_loopw [4, 3] (fun i s wr => O1Rel l w i s wr) (fun i _ _ => m - (intOf i).toNat)
  case atStart => exact ⟨0, Nat.zero_le _, rfl, by rw [List.take_zero]; exact big_nil _ _ _ _, Below.refl _ _⟩
  case round =>
    obtain ⟨i, hi, rfl, hS, hb⟩ := hrel
    rw [HM.out] at hi
    have HS := Lib.hid hS
    have HB := Lib.hid hb
    clear hS hb
    by_cases hlt : i < m
    · have hil : i < l.length := by rw [HM.out]; exact hlt
      rename World => w0
      go_wp2_with fail
      go_loopw [5, 3] (fun k s wr => O2Rel l i hil w k s wr) (fun k _ _ => i - (intOf k).toNat)
      case atStart =>
        refine ⟨0, Nat.zero_le _, rfl, ?_, HB.out⟩
        rw [List.take_zero, show apart l[i] [] = 0 from rfl, Int.add_zero]
        exact HS.out
      case round =>
        obtain ⟨j, hj, rfl, hT, hb2⟩ := hrel
        have HT := Lib.hid hT
        have HB2 := Lib.hid hb2
        clear hT
        by_cases hlt2 : j < i
        · have hjl : j < l.length := by omega
          obtain ⟨ad, x, rfl, _, hbk, hx, hc⟩ := rdI HR.out hil
          obtain ⟨ad2, y, e2, _, _, hy, hc'⟩ := rdI HR.out hjl
          obtain rfl := Option.some.inj e2
          have c0 : wr.cell? (ad.add i) = some (.int .i64 x) := (hb2.cell (by rw [Base.add_block]; exact hbk)).trans hc
          have c1 : wr.cell? (ad.add j) = some (.int .i64 y) := (hb2.cell (by rw [Base.add_block]; exact hbk)).trans hc'
          have hxr := HF.out x (List.mem_of_getElem? hx)
          have hyr := HF.out y (List.mem_of_getElem? hy)
          have ex : l[i] = x := (List.getElem?_eq_some_iff.1 hx).2
          have ey : l[j] = y := (List.getElem?_eq_some_iff.1 hy).2
          have HA := Lib.hid (show pairs [] (l.take i) + apart l[i] (l.take (j + 1)) = pairs [] (l.take i) + apart l[i] (l.take j) + (x - y) * (x - y) by
            rw [apart_take _ hjl, ex, ey, Int.add_assoc])
          have HN := Lib.hid (show pairs [] (l.take i) + apart l[i] (l.take (j + 1)) < pw 8 by rw [pw8]; exact (part_bd HF.out HLT.out hil).2)
          have HSQ := Lib.hid (fun W => square_any (x - y) (by omega) W)
          have hwr : IntKind.i64.wrap (x - y) = x - y := IntWalk.i64_in _ (by omega)
          have hil2 : i < m := hlt
          have hjl2 : j < m := by omega
          have CL := Lib.hid (And.intro c0 c1)
          clear hb2 hx hy hc hc' ex ey c0 c1
          generalize pairs [] (l.take i) + apart l[i] (l.take j) = s at *
          go_wp2_with fail
          refine regionZ 12 (fun w' => w'.cell? (ad.add i) = some (.int .i64 x) ∧ w'.cell? (ad.add j) = some (.int .i64 y)) (by kernel_rfl) (CL.out) (fun hH => ?_)
          refine takeZ 0 (v := ?_) (gi rfl) (by kernel_rfl) (fun _ _ _ h => h) hH (.inl ⟨rfl, fun w hW => ?_⟩) ?_
          rotate_left
          · (go_simp; try with_reducible rfl)
          try simp only [Act.put, List.setIfInBounds_toArray, List.set_cons_zero, List.set_cons_succ]
          refine takeZ 1 (v := ?_) (gi rfl) (by kernel_rfl) (fun _ _ _ h => h) hH (.inl ⟨rfl, fun w hW => ?_⟩) ?_
          rotate_left
          · (go_simp; try with_reducible rfl)
          try simp only [Act.put, List.setIfInBounds_toArray, List.set_cons_zero, List.set_cons_succ]
          refine takeZ 2 (v := ?_) (gi rfl) (by kernel_rfl) (fun _ _ _ h => h) hH (.inl ⟨rfl, fun w hW => ?_⟩) ?_
          rotate_left
          · (go_simp; try with_reducible rfl)
          try simp only [Act.put, List.setIfInBounds_toArray, List.set_cons_zero, List.set_cons_succ]
          refine takeZ 3 (v := ?_) (gi rfl) (by kernel_rfl) (fun _ _ _ h => h) hH (.inl ⟨rfl, fun w hW => ?_⟩) ?_
          rotate_left
          · (go_simp; try with_reducible rfl)
          try simp only [Act.put, List.setIfInBounds_toArray, List.set_cons_zero, List.set_cons_succ]
          refine takeZ 4 (v := ?_) (gi rfl) (by kernel_rfl) (fun _ _ _ h => h) hH (.inl ⟨rfl, fun w hW => ?_⟩) ?_
          rotate_left
          · (obtain ⟨hW1, hW2⟩ := hW; go_simp; try with_reducible rfl)
          try simp only [Act.put, List.setIfInBounds_toArray, List.set_cons_zero, List.set_cons_succ]
          refine takeZ 5 (v := ?_) (gi rfl) (by kernel_rfl) (fun _ _ _ h => h) hH (.inl ⟨rfl, fun w hW => ?_⟩) ?_
          rotate_left
          · (go_simp; try with_reducible rfl)
          try simp only [Act.put, List.setIfInBounds_toArray, List.set_cons_zero, List.set_cons_succ]
          refine takeZ 6 (v := ?_) (gi rfl) (by kernel_rfl) (fun _ _ _ h => h) hH (.inl ⟨rfl, fun w hW => ?_⟩) ?_
          rotate_left
          · (go_simp; try with_reducible rfl)
          try simp only [Act.put, List.setIfInBounds_toArray, List.set_cons_zero, List.set_cons_succ]
          refine takeZ 7 (v := ?_) (gi rfl) (by kernel_rfl) (fun _ _ _ h => h) hH (.inl ⟨rfl, fun w hW => ?_⟩) ?_
          rotate_left
          · (go_simp; try with_reducible rfl)
          try simp only [Act.put, List.setIfInBounds_toArray, List.set_cons_zero, List.set_cons_succ]
          refine takeZ 8 (v := ?_) (gi rfl) (by kernel_rfl) (fun _ _ _ h => h) hH (.inl ⟨rfl, fun w hW => ?_⟩) ?_
          rotate_left
          · (obtain ⟨hW1, hW2⟩ := hW; go_simp; try with_reducible rfl)
          try simp only [Act.put, List.setIfInBounds_toArray, List.set_cons_zero, List.set_cons_succ]
          refine takeZ 9 (v := ?_) (gi rfl) (by kernel_rfl) (fun _ _ _ h => h) hH (.inl ⟨rfl, fun w hW => ?_⟩) ?_
          rotate_left
          · (go_simp; try with_reducible rfl)
          try simp only [Act.put, List.setIfInBounds_toArray, List.set_cons_zero, List.set_cons_succ]
          refine oneZ 10 (by kernel_rfl) (gi rfl) (fun K hK => ?_)
          try simp only [Act.put, List.setIfInBounds_toArray, List.set_cons_zero, List.set_cons_succ]
          go_simp
          refine (HSQ.out _).mono ?_
          rintro e w1 ⟨⟨u1, rfl, hu1⟩, hb1⟩
          have HU1 := Lib.hid hu1
          have HK1 := Lib.hid hb1
          clear hb1 hu1
          refine hK.out _ _ (fun _ => ⟨keepA HK1.out CL.out.1, keepA HK1.out CL.out.2⟩) (fun hH => ?_)
          replace hH := hH (by decide)
          clear hK K
          try simp only [Act.put, List.setIfInBounds_toArray, List.set_cons_zero, List.set_cons_succ]
          refine oneZ 11 (by kernel_rfl) (gi rfl) (fun K hK => ?_)
          try simp only [Act.put, List.setIfInBounds_toArray, List.set_cons_zero, List.set_cons_succ]
          go_simp
          refine (Plus_any _ _ _ _ 8 8 _ ((HT.out.up (Below.refl _ wr).drew).up HK1.out) HU1.out (by omega) (by omega)).mono ?_
          rintro e w2 ⟨⟨u2, rfl, hu2⟩, hb2⟩
          have HNB := Lib.hid (show Big w2 0 w2.heap.size u2 (s + (x - y) * (x - y)) 8 from Big.tight (hu2.more (Nat.zero_le _) (Nat.le_refl _) (Nat.le_refl _)) (by rw [← HA.out]; exact HN.out))
          have HNW := Lib.hid (show Below w.heap.size w w2 from bt hb2 (bt HK1.out HB2.out.drew))
          have HK2 := Lib.hid hb2
          clear hb2 hu2
          refine hK.out _ _ (fun _ => ⟨keepA HK2.out (keepA HK1.out CL.out.1), keepA HK2.out (keepA HK1.out CL.out.2)⟩) (fun hH => ?_)
          replace hH := hH (by decide)
          clear hK K
          try simp only [Act.put, List.setIfInBounds_toArray, List.set_cons_zero, List.set_cons_succ]
          refine yieldZ 12 (v := ?_) (by kernel_rfl) (gi rfl) hH (.inl ⟨rfl, fun w hW => ?_⟩) ?_
          rotate_left
          · (go_simp; try with_reducible rfl)
          try simp only [Act.put, List.setIfInBounds_toArray, List.set_cons_zero, List.set_cons_succ]
          refine doneZ (by kernel_rfl) ?_ _
          clear hH
          go_wp2_with fail
          exact ⟨⟨j + 1, by omega, by go_num, by rw [HA.out]; exact HNB.out, HNW.out⟩, by simp [intOf]; omega⟩
        · obtain rfl : j = i := by omega
          have HP := Lib.hid (pairs_take hil)
          go_wp2_with fail
          exact ⟨⟨j + 1, by rw [HM.out]; omega, by go_num, by rw [HP.out]; exact HT.out, HB2.out⟩, by simp [intOf]; omega⟩
    · obtain rfl : i = m := by omega
      go_wp2_with fail
      go_ret
      refine ⟨⟨_, rfl, ?_⟩, HB.out⟩
      have := HS.out
      rw [List.take_of_length_le (by rw [HM.out]; omega)] at this
      exact this
end Go.Proofs.YtodiipkedhfncaaGreatDoor.SprW
