/- The law ReportLevels, walked, over what its 'lives' answers. -/
import Derived.Test.YtodiipkedhfncaaGreatDoorLavA
import Derived.Test.YtodiipkedhfncaaGreatDoorRpdW
namespace Go.Proofs.YtodiipkedhfncaaGreatDoor.RplW
set_option linter.unusedVariables false
set_option linter.unusedSimpArgs false
open Go.RowKit Base BigM BigW BigZ RptM RptO ScoX SeqM HarmM LevM LevW LavA RpdW

theorem sum_snoc (l : List Int) (x : Int) : (l ++ [x]).sum = l.sum + x := by
  induction l with
  | nil => simp
  | cons y l ih => simp only [List.cons_append, List.sum_cons, ih]; omega
theorem sum_bd {B : Int} (hB : 0 ≤ B) : ∀ (l : List Int), (∀ x ∈ l, 0 ≤ x ∧ x ≤ B) → 0 ≤ l.sum ∧ l.sum ≤ B * l.length
  | [], _ => by simp
  | x :: l, h => by
    have ih := sum_bd hB l (fun y hy => h y (by simp [hy]))
    have h1 := h x (by simp)
    rw [List.sum_cons, List.length_cons, Int.natCast_add, Int.mul_add]
    simp only [Int.natCast_one, Int.mul_one]
    omega
def SmRel (o : List Int) (w : World) (s i : Value) (wr : World) : Prop := ∃ k : Nat, k ≤ o.length ∧ i = .int .i64 (k : Int) ∧ s = .int .i64 (o.take k).sum ∧ w = wr
theorem lev_facts {l : List (Int × Int)} {n : Int} (h : levE l n = 0) (hl : l.length ≤ 100) : (levL l n).length = 11 ∧ (levL l n).sum = l.length ∧ ∀ x ∈ levL l n, 0 ≤ x ∧ x ≤ 100 := by
  by_cases hn : 2 ≤ n ∧ n ≤ 64
  · cases ho : lev isS (hund n) zeros l with
    | none => rw [(lev_no hn ho).2] at h; cases h
    | some o =>
      rw [(lev_yes hn ho).1]
      have h1 := lev_sum (fun p q hs => hund_lt hs hn.1 hn.2) rfl ho
      have h2 := lev_le (B := 0) (Int.le_refl 0) (fun y hy => by have := (List.mem_replicate.1 hy).2; omega) ho
      refine ⟨lev_length ho, ?_, fun x hx => ?_⟩
      · rw [h1]; simp [zeros]
      · have := h2 x hx; omega
  · rw [(lev_arg hn).2] at h; cases h
theorem lev_error {l : List (Int × Int)} {n : Int} (h : levE l n ≠ 0) : ¬ (2 ≤ n ∧ n ≤ 64) ∨ allS l = false := by
  by_cases hn : 2 ≤ n ∧ n ≤ 64
  · right
    cases ho : lev isS (hund n) zeros l with
    | none => exact lev_none ho
    | some o => exact absurd (lev_yes hn ho).2 h
  · exact .inl hn
set_option maxHeartbeats 4000000 in
theorem ReportLevels_any (HLV : Lives) (v : Value) (l : List (Int × Int)) (n : Int) (w : World) (h : Seq 2 scC w 0 w.heap.size v l) (hf : Fits2 l) :
    Calls Tryz.prog 6 #[v, .int .i64 n] w fun e w' => e = .returned (.bool true) ∧ Below w.heap.size w w' := by
  have HV := Lib.hid h
  have HF := Lib.hid hf
  obtain ⟨A, cap, rfl, hc1, hc2, hr, _⟩ := h
  unfold maxLen at hc2
  clear hr hf
  obtain ⟨m, hm⟩ : ∃ m, l.length = m := ⟨_, rfl⟩
  have HM := Lib.hid hm
  rw [hm] at hc1 HV ⊢
  clear hm
  by_cases h1 : 100 < m
  · go_enter Tryz.func6, Tryz.ntmps6
    go_wp2_with fail
    refine (HLV _).mono ?_
    rintro e w1 ⟨rfl, hb1⟩
    go_wp2
    go_ret
    exact ⟨rfl, hb1⟩
  go_enter Tryz.func6, Tryz.ntmps6
  go_wp2_with fail
  refine (Levels_any _ l n w HV.out HF.out).mono ?_
  rintro e w1 ⟨⟨u, rfl, hu⟩, hb1⟩
  have HU := Lib.hid hu
  have HB1 := Lib.hid hb1
  clear hu hb1
  obtain ⟨E, hE⟩ : ∃ E, levE l n = E := ⟨_, rfl⟩
  have HE := Lib.hid hE
  rw [hE]
  go_wp2_with fail
  refine (RLevels_any _ l n w1 (HV.out.up HB1.out) HF.out).mono ?_
  rintro e w2 ⟨⟨u2, rfl, hu2⟩, hb2⟩
  have HU2 := Lib.hid hu2
  have HB2 := Lib.hid hb2
  clear hu2 hb2
  rw [hE]
  clear hE
  go_wp2_with fail
  refine (RSameI_any u u2 _ _ _ _ _ _ w2 (HU.out.below HB2.out) HU2.out).mono ?_
  rintro e w3 ⟨rfl, q, rfl⟩
  rw [decide_eq_true rfl]
  have HB := Lib.hid (below_drewN (bt HB2.out HB1.out) q)
  by_cases hz : E = 0
  · subst hz
    have hfa := lev_facts HE.out (by rw [HM.out]; omega)
    have HU3 := Lib.hid (show Seq 1 inC (w2.drewN q) w.heap.size w1.heap.size u (levL l n) from (HU.out.below HB2.out).drewN q)
    obtain ⟨o, ho⟩ : ∃ o, levL l n = o := ⟨_, rfl⟩
    rw [ho] at hfa HU3
    obtain ⟨ho1, ho2, ho3⟩ := hfa
    rw [HM.out] at ho2
    have HO := Lib.hid (And.intro ho2 ho3)
    have HOL := Lib.hid ho1
    obtain ⟨B, bc, rfl, hd1, hd2, hr, _⟩ := HU3.out
    have HR := Lib.hid hr
    rw [ho1] at hd1 ⊢
    unfold maxLen at hd2
    clear ho ho2 ho3 hr HU3 HU HU2
    generalize w2.drewN q = w3 at *
    have H0 := Lib.hid (show SmRel o w3 (.int .i64 0) (.int .i64 0) w3 from ⟨0, Nat.zero_le _, rfl, by simp, rfl⟩)
    go_wp2
    go_loopw [9, 10] (fun s i wr => SmRel o w3 s i wr) (fun _ i _ => 11 - (intOf i).toNat)
    case atStart => exact H0.out
    case round =>
      obtain ⟨k, hk, rfl, rfl, rfl⟩ := hrel
      rw [HOL.out] at hk
      have hsb := sum_bd (B := 100) (by omega) (o.take k) (fun x hx => HO.out.2 x (List.mem_of_mem_take hx))
      rw [List.length_take, HOL.out] at hsb
      obtain ⟨s, es⟩ : ∃ s, (o.take k).sum = s := ⟨_, rfl⟩
      rw [es] at hsb ⊢
      have ES := Lib.hid es
      clear es
      by_cases hlt : k < 11
      · obtain ⟨ad, x, rfl, _, _, hx, c0⟩ := rdI HR.out (i := k) (by rw [HOL.out]; exact hlt)
        have hx2 := HO.out.2 x (List.mem_of_getElem? hx)
        have HX := Lib.hid hx
        clear hx
        go_wp2
        exact ⟨⟨k + 1, by rw [HOL.out]; omega, by go_num, by rw [SeqM.take_next HX.out, sum_snoc, ES.out], rfl⟩, by simp [intOf]; omega⟩
      · have hs : s = (m : Int) := by rw [← ES.out, List.take_of_length_le (by rw [HOL.out]; omega)]; exact HO.out.1
        subst hs
        go_wp2_with fail
        refine (HLV _).mono ?_
        rintro e w4 ⟨rfl, hb4⟩
        go_wp2
        go_ret
        exact ⟨rfl, bt hb4 HB.out⟩
  · have hzb : (E == 0) = false := by simpa using hz
    have herr := lev_error (l := l) (n := n) (by rw [HE.out]; exact hz)
    have HVX := Lib.hid (show Seq 2 scC (w2.drewN q) 0 (w2.drewN q).heap.size (.slice A m cap) l from ((HV.out.up HB1.out).up HB2.out).drewN q)
    generalize w2.drewN q = w3 at *
    by_cases h2 : n < 2
    · clear herr
      go_wp2_with fail
      refine (HLV _).mono ?_
      rintro e w4 ⟨rfl, hb4⟩
      go_wp2
      go_ret
      exact ⟨rfl, bt hb4 HB.out⟩
    by_cases h3 : 64 < n
    · clear herr
      go_wp2_with fail
      refine (HLV _).mono ?_
      rintro e w4 ⟨rfl, hb4⟩
      go_wp2
      go_ret
      exact ⟨rfl, bt hb4 HB.out⟩
    have hall : allS l = false := herr.resolve_left (fun k => k (by omega))
    have HA := Lib.hid hall
    clear herr hall
    go_wp2_with fail
    refine (RAll_any _ l 0 w3 (scs_seq HVX.out) HF.out).mono ?_
    rintro e w4 ⟨rfl, hb4⟩
    rw [HA.out]
    have HB4 := Lib.hid (bt hb4 HB.out)
    clear hb4
    go_wp2_with fail
    refine (HLV _).mono ?_
    rintro e w5 ⟨rfl, hb5⟩
    go_wp2
    go_ret
    exact ⟨rfl, bt hb5 HB4.out⟩
end Go.Proofs.YtodiipkedhfncaaGreatDoor.RplW
