/- The walk of ScriptParses (printed by mkscp.py). -/
import Derived.Test.YtchgfabgighbfaaGreatDoorRpaW
import Derived.Test.YtchgfabgighbfaaGreatDoorSamW
import Derived.Test.YtchgfabgighbfaaGreatDoorLvdW
namespace Go.Proofs.YtchgfabgighbfaaGreatDoor.ScpW
set_option linter.unusedVariables false
set_option linter.unusedSimpArgs false
open Go.RowKit Go.Shelf Base SeqM ScrM ScrP EqlW LinV TxtM GlbD SchW AskW RgtW RedW ShwW ShoW SamW ParD LvdM LvdW RpaW

theorem len_of {l : List UInt8} (h : (⟨l.toArray⟩ : ByteArray).size ≤ maxLen) : l.length ≤ 9223372036854775807 := by
  have e : (⟨l.toArray⟩ : ByteArray).size = l.length := by show l.toArray.size = _; simp
  unfold maxLen at h
  omega
theorem lns_in {w : World} {base : Nat} {v : Value} {L : List LnR} (h : Lns w base v L) : ∀ r ∈ L, LnIn w 0 w.heap.size r := fun r hr => (h.each r hr).toIn.more (Nat.zero_le _) (Nat.le_refl _)
theorem lns_seq {w : World} {base : Nat} {v : Value} {L : List LnR} (h : Lns w base v L) : Seq 20 lnC w 0 w.heap.size v L := (Seq.of_own h.own).more (Nat.zero_le _) (Nat.le_refl _)
theorem right_small {r : LnR} (h : Right r.ln) : small r := by
  obtain ⟨xv, dv, kv, l⟩ := r
  unfold small
  dsimp only at h ⊢
  cases h with
  | conf c hc => exact ⟨by unfold confOk at hc; show c.c7 ≤ _; omega, fun x hx => by cases hx⟩
  | ask a d h1 h2 h3 h4 => exact ⟨by show (0 : Int) ≤ _; decide, h4⟩
  | stop n h1 h2 => exact ⟨by show (0 : Int) ≤ _; decide, fun x hx => by cases hx⟩
  | crash k h1 h2 => exact ⟨by show (0 : Int) ≤ _; decide, fun x hx => by cases hx⟩
  | opens => exact ⟨by show (0 : Int) ≤ _; decide, fun x hx => by cases hx⟩
set_option maxHeartbeats 8000000 in
set_option maxRecDepth 100000 in
theorem ScriptParses_any (s : List UInt8) (hs9 : s.length ≤ 9223372036854775807) (w : World) (hG : G w) : Calls Tryz.prog 4 #[.string ⟨s.toArray⟩] w fun e w' => e = .returned (.bool true) ∧ Below w.heap.size w w' := by
  have HG := Lib.hid hG
  obtain ⟨m, hm⟩ : ∃ m, s.length = m := ⟨_, rfl⟩
  have sa : s.toArray.size = m := by simpa using hm
  have sa2 : (⟨s.toArray⟩ : ByteArray).size = m := sa
  have HM := Lib.hid hm
  rw [hm] at hs9
  clear hG hm
  by_cases g1 : m ≤ 4000
  · have d1 : decide ((m : Int) > 4000) = false := decide_eq_false (by omega)
    go_enter Tryz.func4, Tryz.ntmps4
    go_wp2_with fail
    clear d1 sa sa2
    refine (Parse_any s (by rw [HM.out]; omega) w HG.out).mono ?_
    rintro e W1 ⟨L1, v1, n1, f1, rfl, hp1, hl1, hb1⟩
    have HP1 := Lib.hid hp1
    have HL1 := Lib.hid hl1
    have HB1 := Lib.hid hb1
    clear hp1 hl1 hb1
    go_wp2_with fail
    refine (RParse_any s (by rw [HM.out]; omega) W1).mono ?_
    rintro e W2 ⟨L2, v2, n2, f2, rfl, hp2, hl2, hb2⟩
    rw [HP1.out] at hp2
    obtain ⟨he, rfl, rfl⟩ : L1.map (·.ln) = L2.map (·.ln) ∧ n1 = n2 ∧ f1 = f2 := by simpa using hp2
    have HE := Lib.hid he
    have HL1b := Lib.hid (HL1.out.below hb2)
    have HL2 := Lib.hid hl2
    have HB2 := Lib.hid (bt hb2 HB1.out)
    clear he hp2 hl2 hb2
    go_wp2_with fail
    refine (SameAll_any v1 v2 L1 L2 0 0 W2 (lns_seq HL1b.out) (lns_seq HL2.out) (lns_in HL1b.out) (lns_in HL2.out)).mono ?_
    rintro e W3 ⟨rfl, hb3⟩
    rw [all_yes HE.out]
    have HL1c := Lib.hid (HL1b.out.below hb3)
    have HB3 := Lib.hid (bt hb3 HB2.out)
    clear hb3
    have q1 : (n1 != n1) = false := by simp
    have q2 : (f1 != f1) = false := by simp
    by_cases e1 : f1 = 0
    · subst e1
      have HSH := Lib.hid (show_parse HP1.out)
      have HRG := Lib.hid (parse_sound HP1.out).2.2.1
      clear q1 q2
      have q1 : (n1 == n1) = true := by simp
      go_wp2_with fail
      refine (Show_any v1 L1 0 W3 (HG.out.below HB3.out) (lns_seq HL1c.out) (lns_in HL1c.out) (fun r hr => right_small (HRG.out r.ln (List.mem_map.2 ⟨r, hr, rfl⟩)))).mono ?_
      rintro e W4 ⟨t, g, rfl, hs4, hb4⟩
      rw [HSH.out] at hs4
      obtain ⟨rfl, rfl⟩ : s = t ∧ 0 = g := by simpa using hs4
      have HB4 := Lib.hid (bt hb4 HB3.out)
      clear hs4 hb4
      have q3 : (s == s) = true := by simp
      go_wp2_with fail
      refine (lives_any _ (HG.out.below (HB4.out))).mono ?_
      rintro e W9 ⟨rfl, hb9⟩
      have HB9 := Lib.hid (bt hb9 (HB4.out))
      clear hb9
      go_wp2_with fail
      go_ret
      exact ⟨rfl, HB9.out⟩
    · have q3 : (f1 == 0) = false := beq_eq_false_iff_ne.2 e1
      have q4 : (f1 != 0) = true := by simpa using e1
      clear e1
      go_wp2_with fail
      refine (lives_any _ (HG.out.below (HB3.out))).mono ?_
      rintro e W9 ⟨rfl, hb9⟩
      have HB9 := Lib.hid (bt hb9 (HB3.out))
      clear hb9
      go_wp2_with fail
      go_ret
      exact ⟨rfl, HB9.out⟩
  · have d1 : decide ((m : Int) > 4000) = true := decide_eq_true (by omega)
    go_enter Tryz.func4, Tryz.ntmps4
    go_wp2_with fail
    refine (lives_any _ (HG.out.below (Below.refl _ _))).mono ?_
    rintro e W9 ⟨rfl, hb9⟩
    have HB9 := Lib.hid (bt hb9 (Below.refl _ _))
    clear hb9
    go_wp2_with fail
    go_ret
    exact ⟨rfl, HB9.out⟩
end Go.Proofs.YtchgfabgighbfaaGreatDoor.ScpW
