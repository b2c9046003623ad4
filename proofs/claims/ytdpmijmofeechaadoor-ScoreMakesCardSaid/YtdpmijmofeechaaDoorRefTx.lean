/- The walks of copseref03.count, Text and Parse. -/
import Derived.Test.YtdpmijmofeechaaDoorTxtL
import Derived.Test.YtdpmijmofeechaaDoorDigW
import Derived.Test.YtdpmijmofeechaaDoorRefRat
namespace Go.Proofs.YtdpmijmofeechaaDoor.RefTx
set_option linter.unusedVariables false
open Go.RowKit Base BigM BigZ GcdM RatM RatW RefRat Glob WideM WideW Rat2 TextW TxtM TxtL DigW

theorem take_snoc (l : List UInt8) (k : Nat) (h : k < l.length) : l.take (k + 1) = l.take k ++ [l[k]] := List.take_succ_eq_append_getElem h
theorem digN_snoc (l : List UInt8) (c : UInt8) (a : Nat) : digN a (l ++ [c]) = digN a l * 10 + (c.toNat - 48) := by rw [digN_append]; rfl
theorem digN_lt : ∀ (l : List UInt8) (a : Nat), l.all isD = true → digN a l < (a + 1) * 10 ^ l.length
  | [], a, _ => by show a < (a + 1) * 1; omega
  | c :: r, a, h => by
    rw [List.all_cons, Bool.and_eq_true] at h
    have hc : 48 ≤ c.toNat ∧ c.toNat ≤ 57 := of_decide_eq_true h.1
    have ih := digN_lt r (a * 10 + (c.toNat - 48)) h.2
    show digN (a * 10 + (c.toNat - 48)) r < (a + 1) * 10 ^ (r.length + 1)
    have e : (a + 1) * 10 ^ (r.length + 1) = (a * 10 + 10) * 10 ^ r.length := by rw [Nat.pow_succ, Nat.mul_comm (10 ^ r.length) 10, ← Nat.mul_assoc]; congr 1; omega
    rw [e]
    exact Nat.lt_of_lt_of_le ih (Nat.mul_le_mul_right _ (by omega))
theorem count_bad {l : List UInt8} (h : countB l = false) : countV l = 0 := by unfold countV; rw [h]; rfl
theorem count_bd (l : List UInt8) : 0 ≤ countV l ∧ countV l < 10000000000 := by
  cases h : countB l
  · rw [count_bad h]; omega
  · unfold countV
    rw [if_pos h]
    unfold countB at h
    rw [Bool.and_eq_true, Bool.and_eq_true] at h
    have h2 : l.length ≤ 10 := of_decide_eq_true h.1.2
    have h3 := digN_lt l 0 h.2
    have h4 := Nat.pow_le_pow_right (n := 10) (by omega) h2
    simp only [Nat.zero_add, Nat.one_mul] at h3
    have e : (10 : Nat) ^ 10 = 10000000000 := by decide
    omega

def CntRel (l : List UInt8) (n i : Value) : Prop := ∃ k : Nat, k ≤ l.length ∧ i = .int .i64 (k : Int) ∧ n = .int .i64 ((digN 0 (l.take k) : Nat) : Int) ∧ (l.take k).all isD = true
theorem all_false {l : List UInt8} (k : Nat) (h : k < l.length) (hd : isD l[k] = false) : countB l = false := by
  unfold countB
  have : l.all isD = false := by
    rw [List.all_eq_false]
    exact ⟨l[k], List.getElem_mem h, by rw [hd]; decide⟩
  rw [this, Bool.and_false]
set_option maxHeartbeats 1000000 in
theorem count_any (l : List UInt8) (w : World) (hl : l.length ≤ 1073741824) :
    Calls Tryd.prog 69 #[.string ⟨l.toArray⟩] w fun e w' => e = .returned (.tuple #[.int .i64 (countV l), .bool (countB l)]) ∧ w = w' := by
  by_cases h0 : l = []
  · subst h0
    go_enter Tryd.func69, Tryd.ntmps69
    go_wp2
    go_ret2
    exact ⟨rfl, rfl⟩
  by_cases h10 : 10 < l.length
  · have F := Lib.hid (show countB l = false by unfold countB; rw [decide_eq_false (by omega), Bool.and_false, Bool.false_and])
    have FV := Lib.hid (count_bad F.out)
    have e0 : l.isEmpty = false := by cases l with | nil => exact absurd rfl h0 | cons _ _ => rfl
    have h10I : (10 : Int) < (l.length : Int) := by omega
    go_enter Tryd.func69, Tryd.ntmps69
    go_wp2
    go_ret2
    exact ⟨ret_ib FV.out.symm F.out.symm, rfl⟩
  · have e0 : l.isEmpty = false := by cases l with | nil => exact absurd rfl h0 | cons _ _ => rfl
    have h10I : ¬ (10 : Int) < (l.length : Int) := by omega
    have H0 := Lib.hid (show CntRel l (.int .i64 0) (.int .i64 0) from ⟨0, Nat.zero_le _, rfl, rfl, rfl⟩)
    go_enter Tryd.func69, Tryd.ntmps69
    go_wp2
    go_loop [4, 5] (fun n i => CntRel l n i) (fun _ i => l.length - (intOf i).toNat)
    case atStart => exact H0.out
    case round =>
      obtain ⟨k, hk, rfl, rfl, hall⟩ := hrel
      have HA := Lib.hid hall
      have hb := digN_lt (l.take k) 0 hall
      have hlk : (l.take k).length ≤ 9 ∨ k = l.length := by rw [List.length_take]; omega
      clear hall
      by_cases hlt : k < l.length
      · have hb9 : digN 0 (l.take k) < 1000000000 := by
          have h9 : (l.take k).length ≤ 9 := by omega
          have := Nat.pow_le_pow_right (n := 10) (by omega) h9
          have e : (10 : Nat) ^ 9 = 1000000000 := by decide
          simp only [Nat.zero_add, Nat.one_mul] at hb
          omega
        have HS := Lib.hid (show l.take (k + 1) = l.take k ++ [l[k]] from take_snoc l k hlt)
        obtain ⟨N, hN⟩ : ∃ N, digN 0 (l.take k) = N := ⟨_, rfl⟩
        rw [hN] at hb9 ⊢
        have HN := Lib.hid hN
        clear hb hlk hN
        have hsz : k < (⟨l.toArray⟩ : ByteArray).size := by show k < l.toArray.size; simpa using hlt
        have hcl : (⟨l.toArray⟩ : ByteArray)[k]'hsz = l[k] := rfl
        have hlt8 := (l[k]).toNat_lt
        by_cases d1 : (((⟨l.toArray⟩ : ByteArray)[k]'hsz).toNat : Int) < 48
        · have F := Lib.hid (all_false k hlt (by unfold isD; rw [← hcl]; exact decide_eq_false (by omega)))
          have FV := Lib.hid (count_bad F.out)
          clear hcl
          go_wp2
          go_ret2
          exact ⟨ret_ib FV.out.symm F.out.symm, rfl⟩
        · by_cases d2 : (57 : Int) < (((⟨l.toArray⟩ : ByteArray)[k]'hsz).toNat : Int)
          · have F := Lib.hid (all_false k hlt (by unfold isD; rw [← hcl]; exact decide_eq_false (by omega)))
            have FV := Lib.hid (count_bad F.out)
            clear hcl
            go_wp2
            go_ret2
            exact ⟨ret_ib FV.out.symm F.out.symm, rfl⟩
          · have HC := Lib.hid hcl
            have HD := Lib.hid (show isD l[k] = true by unfold isD; rw [← hcl]; exact decide_eq_true (by omega))
            have HV := Lib.hid (show (((N * 10 + (l[k].toNat - 48) : Nat)) : Int) = (N : Int) * 10 + (((⟨l.toArray⟩ : ByteArray)[k]'hsz).toNat : Int) - 48 by rw [← hcl]; omega)
            clear hcl
            go_wp2
            refine ⟨⟨k + 1, by omega, by go_num, ?_, ?_⟩, by simp [intOf]; omega⟩
            · rw [HS.out, digN_snoc, HN.out, HV.out]
            · rw [HS.out, List.all_append, HA.out, List.all_cons, HD.out]; rfl
      · have hkl : k = l.length := by omega
        have F := Lib.hid (show countB l = true by
          have := HA.out
          rw [hkl, List.take_length] at this
          unfold countB
          rw [this, decide_eq_true (by omega), e0]; rfl)
        have FV := Lib.hid (show countV l = ((digN 0 (l.take k) : Nat) : Int) by unfold countV; rw [if_pos F.out, hkl, List.take_length])
        clear hb hlk hkl
        go_wp2
        go_ret2
        exact ⟨ret_ib FV.out.symm F.out.symm, rfl⟩
set_option maxHeartbeats 1000000 in
theorem RText_any (p q : Int) (w : World) (hf : Fit p q) :
    Calls Tryd.prog 24 #[.agg #[.int .i64 p, .int .i64 q]] w fun e w' => e = .returned (.string ⟨(textR p q).toArray⟩) ∧ Below w.heap.size w w' := by
  cases h : isR p q
  · have F := Lib.hid (textR_no h)
    go_enter Tryd.func24, Tryd.ntmps24
    go_wp2_with fail
    refine (RIs_any p q _ hf).mono ?_
    rintro e w1 ⟨rfl, hb1⟩
    go_wp2
    go_ret
    exact ⟨by rw [F.out]; rfl, (below_alloc1 _ _).trans (hb1.mono (below_alloc1 _ _).size)⟩
  · obtain ⟨x1, x2, x3, x4, _⟩ := isR_true h
    by_cases h1 : q = 1
    · subst h1
      have F := Lib.hid (textR_one h)
      go_enter Tryd.func24, Tryd.ntmps24
      go_wp2_with fail
      refine (RIs_any p 1 _ hf).mono ?_
      rintro e w1 ⟨rfl, hb1⟩
      obtain ⟨hc, hfz⟩ := bcell hb1
      go_wp2_with fail
      refine (Digits_any p _ (by omega) (by omega)).mono ?_
      rintro e w2 ⟨rfl, rfl⟩
      go_wp2
      go_ret
      exact ⟨by rw [F.out]; rfl, (below_alloc1 _ _).trans (hb1.mono (below_alloc1 _ _).size)⟩
    · have F := Lib.hid (textR_two h h1)
      have hq1 : (q == 1) = false := by simpa using h1
      clear h1
      have l1 := Lib.itoa_length_le p (by omega) (by omega)
      have l2 := Lib.itoa_length_le q (by omega) (by omega)
      have n1 : ¬ 9223372036854775807 < (Lib.itoa p).length + 1 := by omega
      have n2 : ¬ 9223372036854775807 < (Lib.itoa p).length + 1 + (Lib.itoa q).length := by omega
      have n3 : ¬ 9223372036854775807 < (⟨(Lib.itoa p).toArray⟩ : ByteArray).size + 1 := by show ¬ 9223372036854775807 < (Lib.itoa p).toArray.size + 1; rw [List.size_toArray]; omega
      have n4 : ¬ 9223372036854775807 < (⟨(Lib.itoa p).toArray⟩ : ByteArray).size + 1 + (⟨(Lib.itoa q).toArray⟩ : ByteArray).size := by show ¬ 9223372036854775807 < (Lib.itoa p).toArray.size + 1 + (Lib.itoa q).toArray.size; rw [List.size_toArray, List.size_toArray]; omega
      clear l1 l2
      go_enter Tryd.func24, Tryd.ntmps24
      go_wp2_with fail
      refine (RIs_any p q _ hf).mono ?_
      rintro e w1 ⟨rfl, hb1⟩
      have c1 := cell_at_below hb1 w.heap.size 0 (.int .i64 p) (by go_simp)
      have c2 := cell_at_below hb1 w.heap.size 1 (.int .i64 q) (by go_simp)
      have hbz := (below_alloc1 w (.cells #[.int .i64 p, .int .i64 q] 23)).trans (hb1.mono (below_alloc1 _ _).size)
      clear hb1
      go_wp2_with fail
      go_quiet ((first | (go_at_call_of 70 (Value.int IntKind.i64 p); exact Calls.quiet_of_same (quiet_of_left (Digits_any p _ (by omega) (by omega)))) | (go_at_call_of 70 (Value.int IntKind.i64 q); exact Calls.quiet_of_same (quiet_of_left (Digits_any q _ (by omega) (by omega))))))
      go_wp2
      go_ret
      refine ⟨?_, below_drewN hbz _⟩
      rw [F.out]; exact ret_str3 _ _
end Go.Proofs.YtdpmijmofeechaaDoor.RefTx
