/- The walks of package harm (but Frac and Table) and of copseref05 (but Frac and Table). -/
import Derived.Test.YtdpmijmofeechaaDoorRefDo
import Derived.Test.YtdpmijmofeechaaDoorHarmM
namespace Go.Proofs.YtdpmijmofeechaaDoor.HarmX
set_option linter.unusedVariables false
open Go.RowKit Base BigM BigW BigZ GcdW GcdM RatM RatW RefRat HarmM

theorem clamp_any (v lo hi : Int) (w : World) :
    Calls Tryd.prog 140 #[.int .i64 v, .int .i64 lo, .int .i64 hi] w fun e w' => e = .returned (.int .i64 (clamp v lo hi)) ∧ w = w' := by
  go_enter Tryd.func140, Tryd.ntmps140
  go_wp2
  all_goals go_ret
  all_goals refine ⟨ret_int ?_, rfl⟩
  all_goals unfold clamp
  all_goals (repeat' split) <;> omega
theorem held_any (n : Int) (w : World) :
    Calls Tryd.prog 119 #[.int .i64 n] w fun e w' => e = .returned (.int .i64 (held n)) ∧ w = w' := by
  go_enter Tryd.func119, Tryd.ntmps119
  go_wp2_with (go_at_call 140; refine (clamp_any _ _ _ _).mono ?_; rintro e w' ⟨rfl, rfl⟩)
  go_ret
  exact ⟨rfl, rfl⟩
theorem Held_any (n : Int) (w : World) :
    Calls Tryd.prog 123 #[.int .i64 n] w fun e w' => e = .returned (.int .i64 (held n)) ∧ w = w' := by
  go_enter Tryd.func123, Tryd.ntmps123
  go_wp2
  all_goals go_ret
  all_goals refine ⟨ret_int ?_, rfl⟩
  all_goals unfold held
  all_goals (repeat' split) <;> omega
theorem both_any (n : Int) (w : World) :
    Calls Tryd.prog 120 #[.int .i64 n] w fun e w' => e = .returned (.tuple #[.int .i64 (low n), .int .i64 (brok n)]) ∧ w = w' := by
  have hb := held_bd n
  obtain ⟨m, hm⟩ : ∃ m : Nat, held n = m := ⟨(held n).toNat, by omega⟩
  have HL := Lib.hid (show low n = lowN m ∧ brok n = brokenN m by unfold low brok; rw [hm]; exact ⟨rfl, rfl⟩)
  have HM := Lib.hid hm
  have hmb : m ≤ 256 := by omega
  clear hm hb
  go_enter Tryd.func120, Tryd.ntmps120
  go_wp2_with (go_at_call 119; refine (held_any _ _).mono ?_; rintro e w' ⟨rfl, rfl⟩)
  rw [HM.out]
  go_loop [2, 3, 7] (fun lo br i => ∃ k : Nat, k ≤ m ∧ i = .int .i64 k ∧ lo = .int .i64 (lowN k) ∧ br = .int .i64 (brokenN k)) (fun _ _ i => m - (intOf i).toNat)
  case atStart => exact ⟨0, Nat.zero_le _, rfl, rfl, rfl⟩
  case round =>
    obtain ⟨k, hk, rfl, rfl, rfl⟩ := hrel
    have hl := lowN_bd k
    have hbr := brokenN_bd k
    have hu := unit_bd k
    by_cases hlt : k < m
    · go_wp2
      all_goals
        go_round
        case rel => refine ⟨k + 1, by omega, by go_num, rfl, ?_⟩; simp only [brokenN]; split <;> (first | rfl | (go_num) | omega)
        case measure => simp [intOf]; omega
    · go_wp2
      go_ret2
      have : k = m := by omega
      subst this
      exact ⟨ret_int2 HL.out.1.symm HL.out.2.symm, rfl⟩
theorem ends_any (n l b : Int) (w : World) (hn : n ≤ 256) (hl : 0 ≤ l) (hl2 : l ≤ 274877906944) (hb : 0 ≤ b) (hb2 : b ≤ 256) :
    Calls Tryd.prog 121 #[.int .i64 n, .int .i64 l, .int .i64 b] w fun e w' => e = .returned (.tuple #[.int .i64 (endsLo n l), .int .i64 (endsHi n l b)]) ∧ ∃ k, w' = w.drewN k := by
  by_cases h : n < 2
  · go_enter Tryd.func121, Tryd.ntmps121
    go_wp2
    go_ret2
    exact ⟨ret_int2 (by simp [endsLo, h]) (by simp [endsHi, h]), 0, rfl⟩
  · have h1 := share_bd n (by omega)
    by_cases h3 : 0 < 2147483648 * (n - 1) % n
    · have HE := Lib.hid (show endsLo n l = 2 * l - (2147483648 * (n - 1) / n + 1) ∧ endsHi n l b = 2 * (l + b) - 2147483648 * (n - 1) / n by
        unfold endsLo endsHi; rw [if_neg h, if_neg h, if_pos h3]; exact ⟨rfl, rfl⟩)
      go_enter Tryd.func121, Tryd.ntmps121
      go_wp2
      go_quiet (fail)
      go_wp2
      go_ret2
      exact ⟨ret_int2 HE.out.1.symm HE.out.2.symm, _, rfl⟩
    · have HE := Lib.hid (show endsLo n l = 2 * l - (2147483648 * (n - 1) / n) ∧ endsHi n l b = 2 * (l + b) - 2147483648 * (n - 1) / n by
        unfold endsLo endsHi; rw [if_neg h, if_neg h, if_neg h3, Int.add_zero]; exact ⟨rfl, rfl⟩)
      go_enter Tryd.func121, Tryd.ntmps121
      go_wp2
      go_quiet (fail)
      go_wp2
      go_ret2
      exact ⟨ret_int2 HE.out.1.symm HE.out.2.symm, _, rfl⟩
theorem Ends_any (n : Int) (w : World) :
    Calls Tryd.prog 105 #[.int .i64 n] w fun e w' => e = .returned (.tuple #[.int .i64 (eLo n), .int .i64 (eHi n)]) ∧ ∃ k, w' = w.drewN k := by
  have h := held_bd n
  have h1 := low_bd (held n - 1)
  have h2 := brok_bd (held n - 1)
  go_enter Tryd.func105, Tryd.ntmps105
  go_wp2_with (first
    | (go_at_call 119; refine (held_any _ _).mono ?_; rintro e w' ⟨rfl, rfl⟩)
    | (go_at_call 120; refine (both_any _ _).mono ?_; rintro e w' ⟨rfl, rfl⟩)
    | (go_at_call 121; refine (ends_any _ _ _ _ (by omega) (by omega) (by omega) (by omega) (by omega)).mono ?_; rintro e w' ⟨rfl, k, rfl⟩))
  go_ret2
  exact ⟨rfl, _, rfl⟩
theorem Norm_any (n : Int) (w : World) :
    Calls Tryd.prog 72 #[.int .i64 n] w fun e w' => e = .returned (.int .i64 (norm n)) ∧ ∃ k, w' = w.drewN k := by
  have h1 := eLo_bd n
  have h2 := eHi_bd n
  go_enter Tryd.func72, Tryd.ntmps72
  go_wp2_with (go_at_call 105; refine (Ends_any _ _).mono ?_; rintro e w' ⟨rfl, k, rfl⟩)
  go_ret
  exact ⟨rfl, _, rfl⟩

theorem RLow_any (n : Int) (w : World) :
    Calls Tryd.prog 124 #[.int .i64 n] w fun e w' => e = .returned (.int .i64 (low n)) ∧ w = w' := by
  have hb := held_bd n
  obtain ⟨m, hm⟩ : ∃ m : Nat, held n = m := ⟨(held n).toNat, by omega⟩
  have HL := Lib.hid (show low n = lowN m by unfold low; rw [hm]; rfl)
  have HM := Lib.hid hm
  have hmb : m ≤ 256 := by omega
  clear hm hb
  go_enter Tryd.func124, Tryd.ntmps124
  go_wp2
  go_loop [3, 4] (fun lo i => ∃ k : Nat, k ≤ m ∧ i = .int .i64 ((k : Int) + 1) ∧ lo = .int .i64 (lowN k)) (fun _ i => m + 1 - (intOf i).toNat)
  case atStart => exact ⟨0, Nat.zero_le _, rfl, rfl⟩
  case round =>
    obtain ⟨k, hk, rfl, rfl⟩ := hrel
    have hl := lowN_bd k
    have hu := unit_bd k
    go_wp2_with fail
    refine (Held_any n _).mono ?_
    rintro e w' ⟨rfl, rfl⟩
    rw [HM.out]
    by_cases hlt : k < m
    · go_wp2
      go_round
      case rel => exact ⟨k + 1, by omega, by go_num, rfl⟩
      case measure => simp [intOf]; omega
    · go_wp2
      go_ret
      have : k = m := by omega
      subst this
      exact ⟨ret_int HL.out.symm, rfl⟩
theorem high_step (k : Nat) : ((1073741824 : Int) + ((k : Int) + 1) - 1) / ((k : Int) + 1) = 1073741824 / ((k : Int) + 1) + (if 0 < 1073741824 % ((k : Int) + 1) then 1 else 0) := ceil_eq _ _ (by omega)
theorem RHigh_any (n : Int) (w : World) :
    Calls Tryd.prog 125 #[.int .i64 n] w fun e w' => e = .returned (.int .i64 (low n + brok n)) ∧ w = w' := by
  have hb := held_bd n
  obtain ⟨m, hm⟩ : ∃ m : Nat, held n = m := ⟨(held n).toNat, by omega⟩
  have HL := Lib.hid (show low n + brok n = lowN m + brokenN m by unfold low brok; rw [hm]; rfl)
  have HM := Lib.hid hm
  have hmb : m ≤ 256 := by omega
  clear hm hb
  go_enter Tryd.func125, Tryd.ntmps125
  go_wp2
  go_loop [3, 4] (fun lo i => ∃ k : Nat, k ≤ m ∧ i = .int .i64 ((k : Int) + 1) ∧ lo = .int .i64 (lowN k + brokenN k)) (fun _ i => m + 1 - (intOf i).toNat)
  case atStart => exact ⟨0, Nat.zero_le _, rfl, rfl⟩
  case round =>
    obtain ⟨k, hk, rfl, rfl⟩ := hrel
    have hl := lowN_bd k
    have hbk := brokenN_bd k
    have hu : 0 ≤ ((1073741824 : Int) + ((k : Int) + 1) - 1) / ((k : Int) + 1) ∧ ((1073741824 : Int) + ((k : Int) + 1) - 1) / ((k : Int) + 1) ≤ 1073742081 :=
      ⟨Int.ediv_nonneg (by omega) (by omega), by have := Int.ediv_le_self (a := (1073741824 : Int) + ((k : Int) + 1) - 1) ((k : Int) + 1) (by omega); omega⟩
    have HS := Lib.hid (high_step k)
    go_wp2_with fail
    refine (Held_any n _).mono ?_
    rintro e w' ⟨rfl, rfl⟩
    rw [HM.out]
    by_cases hlt : k < m
    · go_wp2
      go_round
      case rel => refine ⟨k + 1, by omega, by go_num, ?_⟩; simp only [lowN, brokenN]; have := HS.out; congr 1; omega
      case measure => simp [intOf]; omega
    · go_wp2
      go_ret
      have : k = m := by omega
      subst this
      exact ⟨ret_int HL.out.symm, rfl⟩
theorem REnds_any (n : Int) (w : World) :
    Calls Tryd.prog 108 #[.int .i64 n] w fun e w' => e = .returned (.tuple #[.int .i64 (eLo n), .int .i64 (eHi n)]) ∧ ∃ k, w' = w.drewN k := by
  have h := held_bd n
  have h1 := low_bd (held n - 1)
  have h2 := brok_bd (held n - 1)
  by_cases h2' : held n < 2
  · have HE := Lib.hid (show eLo n = 0 ∧ eHi n = 0 by unfold eLo eHi endsLo endsHi; rw [if_pos h2', if_pos h2']; exact ⟨rfl, rfl⟩)
    go_enter Tryd.func108, Tryd.ntmps108
    go_wp2_with (go_at_call 123; refine (Held_any _ _).mono ?_; rintro e w' ⟨rfl, rfl⟩)
    go_ret2
    exact ⟨ret_int2 HE.out.1.symm HE.out.2.symm, 0, rfl⟩
  · have HE := Lib.hid (show eLo n = 2 * low (held n - 1) - ((2147483648 * (held n - 1) + held n - 1) / held n) ∧ eHi n = 2 * (low (held n - 1) + brok (held n - 1)) - 2147483648 * (held n - 1) / held n by
      unfold eLo eHi endsLo endsHi; rw [if_neg h2', if_neg h2', ceil_eq _ _ (by omega)]; exact ⟨rfl, rfl⟩)
    have hs := share_bd (held n) (by omega)
    have hc := ceil_eq (2147483648 * (held n - 1)) (held n) (by omega)
    have hcb : 0 ≤ (2147483648 * (held n - 1) + held n - 1) / held n ∧ (2147483648 * (held n - 1) + held n - 1) / held n ≤ 2147483649 := by
      rw [hc]; split <;> omega
    obtain ⟨H, hH⟩ : ∃ H, held n = H := ⟨_, rfl⟩
    have HH := Lib.hid hH
    rw [hH] at h h1 h2 h2' HE hs hcb
    clear hH hc
    go_enter Tryd.func108, Tryd.ntmps108
    go_wp2_with fail
    refine (Held_any _ _).mono ?_
    rintro e w' ⟨rfl, rfl⟩
    rw [HH.out]
    go_wp2_with fail
    go_quiet ((first | (go_at_call 124; exact Calls.quiet_of_same (quiet_of_left (RLow_any _ _))) | (go_at_call 125; exact Calls.quiet_of_same (quiet_of_left (RHigh_any _ _)))))
    go_wp2
    go_ret2
    exact ⟨ret_int2 HE.out.1.symm HE.out.2.symm, _, rfl⟩
theorem RNorm_any (n : Int) (w : World) :
    Calls Tryd.prog 75 #[.int .i64 n] w fun e w' => e = .returned (.int .i64 (norm n)) ∧ ∃ k, w' = w.drewN k := by
  have h1 := eLo_bd n
  have h2 := eHi_bd n
  go_enter Tryd.func75, Tryd.ntmps75
  go_wp2_with (go_at_call 108; refine (REnds_any _ _).mono ?_; rintro e w' ⟨rfl, k, rfl⟩)
  go_ret
  exact ⟨rfl, _, rfl⟩
end Go.Proofs.YtdpmijmofeechaaDoor.HarmX
