/- num.Gcd, harm.Norm, score.Is, score.Level; the document's (lines of RatW, HarmX, PartW, ScoW, LvlW; printed by mkscox.py). -/
import Derived.Test.YtcaeihfgdlffkaaGreatRRRRDoorPk06
import Derived.Test.YtcaeihfgdlffkaaGreatRRRRDoorPk08
import Derived.Test.YtcaeihfgdlffkaaGreatRRRRDoorPk00
import Derived.Deep.RegionHeld3
import Derived.Deep.DeepMust
namespace Go.Proofs.YtcaeihfgdlffkaaGreatRRRRDoor.ScoX
set_option linter.unusedVariables false
open Go.RowKit Base BigM BigW BigZ GcdM GcdW RatM HarmM WideM WidX SeqM

theorem size_any (a : Int) (w : World) (a0 : -9223372036854775808 ≤ a) (a1 : a ≤ 9223372036854775807) :
    Calls Tryz.prog 99 #[.int .i64 a] w fun e w' => e = .returned (.int .u64 (a.natAbs : Int)) ∧ w = w' := by
  by_cases h : a < 0
  · go_enter Tryz.func99, Tryz.ntmps99
    go_wp2
    go_ret
    exact ⟨ret_int (by first | omega | (simp [IntKind.wrap]; omega) | (unfold IntKind.wrap; simp [IntKind.bits, IntKind.signed]; omega)), rfl⟩
  · go_enter Tryz.func99, Tryz.ntmps99
    go_wp2
    go_ret
    exact ⟨ret_int (by omega), rfl⟩

def UGcdRel (a b : Int) (x y : Value) : Prop := ∃ p q : Int, x = .int .u64 p ∧ y = .int .u64 q ∧ g p q = g a b ∧ (0 ≤ p ∧ p ≤ 9223372036854775808) ∧ (0 ≤ q ∧ q ≤ 9223372036854775808)
theorem ugcd_step {a b p q : Int} (h : g p q = g a b) (hp : 0 ≤ p) (hq : 0 < q) : g q (p % q) = g a b := by
  rw [← h, g_step p q, Int.tmod_eq_emod_of_nonneg hp]
set_option maxHeartbeats 1000000 in
theorem Gcd_any (a b : Int) (w : World) (a0 : -9223372036854775808 ≤ a) (a1 : a ≤ 9223372036854775807) (b0 : -9223372036854775808 ≤ b) (b1 : b ≤ 9223372036854775807) :
    Calls Tryz.prog 106 #[.int .i64 a, .int .i64 b] w fun e w' => e = .returned (.tuple #[.int .i64 (gcdV a b), .int .i64 (gcdE a b)]) ∧ ∃ q, w' = w.drewN q := by
  have H0 := Lib.hid (show UGcdRel a b (.int .u64 (a.natAbs : Int)) (.int .u64 (b.natAbs : Int)) from ⟨_, _, rfl, rfl, g_natAbs a b, by omega, by omega⟩)
  have hbd := g_bd a b ⟨a0, a1⟩ ⟨b0, b1⟩
  have HBD := Lib.hid hbd
  clear hbd
  go_enter Tryz.func106, Tryz.ntmps106
  go_wp2_with fail
  refine (size_any a _ a0 a1).mono ?_
  rintro e w1 ⟨rfl, rfl⟩
  go_wp2_with fail
  refine (size_any b _ b0 b1).mono ?_
  rintro e w1 ⟨rfl, rfl⟩
  go_wp2_with fail
  go_loopw [6, 7] (fun x y wr => UGcdRel a b x y ∧ ∃ q, wr = w.drewN q) (fun _ y _ => (intOf y).toNat)
  case atStart => exact ⟨H0.out, 0, rfl⟩
  case round =>
    obtain ⟨⟨p, q, rfl, rfl, hg, hp, hq⟩, k, rfl⟩ := hrel
    have HG := Lib.hid hg
    clear hg
    by_cases hz : 0 < q
    · have hm : 0 ≤ p % q ∧ p % q < q := ⟨Int.emod_nonneg _ (by omega), Int.emod_lt_of_pos _ hz⟩
      go_wp2
      go_quiet (fail)
      go_wp2
      exact ⟨⟨⟨q, _, rfl, rfl, ugcd_step HG.out hp.1 hz, hq, by omega⟩, by simp only [World.drewN_drewN]; exact ⟨_, rfl⟩⟩, by simp only [intOf]; omega⟩
    · obtain rfl : q = 0 := by omega
      have hgp := HG.out
      rw [g_zero] at hgp
      have HGP := Lib.hid (show p = g a b by omega)
      clear hgp
      by_cases hbig : 9223372036854775807 < p
      · have HE := Lib.hid (show gcdV a b = 0 ∧ gcdE a b = 10 from fits_out (by rw [← HGP.out]; omega))
        go_wp2
        go_ret2
        exact ⟨ret_int2 HE.out.1.symm HE.out.2.symm, _, rfl⟩
      · have HE := Lib.hid (gcd_in (a := a) (b := b) (by rw [← HGP.out]; omega))
        go_wp2
        go_ret2
        exact ⟨ret_int2 (by rw [HE.out.1, ← HGP.out]) HE.out.2.symm, _, rfl⟩

def Fit (p q : Int) : Prop := (-9223372036854775808 ≤ p ∧ p ≤ 9223372036854775807) ∧ (-9223372036854775808 ≤ q ∧ q ≤ 9223372036854775807)

set_option maxHeartbeats 1000000 in

theorem clamp_any (v lo hi : Int) (w : World) :
    Calls Tryz.prog 159 #[.int .i64 v, .int .i64 lo, .int .i64 hi] w fun e w' => e = .returned (.int .i64 (clamp v lo hi)) ∧ w = w' := by
  go_enter Tryz.func159, Tryz.ntmps159
  go_wp2
  all_goals go_ret
  all_goals refine ⟨ret_int ?_, rfl⟩
  all_goals unfold clamp
  all_goals (repeat' split) <;> omega
theorem held_any (n : Int) (w : World) :
    Calls Tryz.prog 131 #[.int .i64 n] w fun e w' => e = .returned (.int .i64 (held n)) ∧ w = w' := by
  go_enter Tryz.func131, Tryz.ntmps131
  go_wp2_with (go_at_call 159; refine (clamp_any _ _ _ _).mono ?_; rintro e w' ⟨rfl, rfl⟩)
  go_ret
  exact ⟨rfl, rfl⟩
theorem Held_any (n : Int) (w : World) :
    Calls Tryz.prog 141 #[.int .i64 n] w fun e w' => e = .returned (.int .i64 (held n)) ∧ w = w' := by
  go_enter Tryz.func141, Tryz.ntmps141
  go_wp2
  all_goals go_ret
  all_goals refine ⟨ret_int ?_, rfl⟩
  all_goals unfold held
  all_goals (repeat' split) <;> omega
theorem both_any (n : Int) (w : World) :
    Calls Tryz.prog 132 #[.int .i64 n] w fun e w' => e = .returned (.tuple #[.int .i64 (low n), .int .i64 (brok n)]) ∧ w = w' := by
  have hb := held_bd n
  obtain ⟨m, hm⟩ : ∃ m : Nat, held n = m := ⟨(held n).toNat, by omega⟩
  have HL := Lib.hid (show low n = lowN m ∧ brok n = brokenN m by unfold low brok; rw [hm]; exact ⟨rfl, rfl⟩)
  have HM := Lib.hid hm
  have hmb : m ≤ 256 := by omega
  clear hm hb
  go_enter Tryz.func132, Tryz.ntmps132
  go_wp2_with (go_at_call 131; refine (held_any _ _).mono ?_; rintro e w' ⟨rfl, rfl⟩)
  rw [HM.out]
  go_loop [2, 3, 7] (fun lo br i => ∃ k : Nat, k ≤ m ∧ i = .int .i64 k ∧ lo = .int .i64 (lowN k) ∧ br = .int .i64 (brokenN k)) (fun _ _ i => m - (intOf i).toNat)
  case atStart => exact ⟨0, Nat.zero_le _, rfl, rfl, rfl⟩
  case round =>
    obtain ⟨k, hk, rfl, rfl, rfl⟩ := hrel
    have hl := lowN_bd k
    have hbr := brokenN_bd k
    have hu := unit_bd k
    by_cases hlt : k < m
    · go_wp2
      all_goals
        go_round
        case rel => refine ⟨k + 1, by omega, by go_num, rfl, ?_⟩; simp only [brokenN]; split <;> (first | rfl | (go_num) | omega)
        case measure => simp [intOf]; omega
    · go_wp2
      go_ret2
      have : k = m := by omega
      subst this
      exact ⟨ret_int2 HL.out.1.symm HL.out.2.symm, rfl⟩
theorem ends_any (n l b : Int) (w : World) (hn : n ≤ 256) (hl : 0 ≤ l) (hl2 : l ≤ 274877906944) (hb : 0 ≤ b) (hb2 : b ≤ 256) :
    Calls Tryz.prog 133 #[.int .i64 n, .int .i64 l, .int .i64 b] w fun e w' => e = .returned (.tuple #[.int .i64 (endsLo n l), .int .i64 (endsHi n l b)]) ∧ ∃ k, w' = w.drewN k := by
  by_cases h : n < 2
  · go_enter Tryz.func133, Tryz.ntmps133
    go_wp2
    go_ret2
    exact ⟨ret_int2 (by simp [endsLo, h]) (by simp [endsHi, h]), 0, rfl⟩
  · have h1 := share_bd n (by omega)
    by_cases h3 : 0 < 2147483648 * (n - 1) % n
    · have HE := Lib.hid (show endsLo n l = 2 * l - (2147483648 * (n - 1) / n + 1) ∧ endsHi n l b = 2 * (l + b) - 2147483648 * (n - 1) / n by
        unfold endsLo endsHi; rw [if_neg h, if_neg h, if_pos h3]; exact ⟨rfl, rfl⟩)
      go_enter Tryz.func133, Tryz.ntmps133
      go_wp2
      go_quiet (fail)
      go_wp2
      go_ret2
      exact ⟨ret_int2 HE.out.1.symm HE.out.2.symm, _, rfl⟩
    · have HE := Lib.hid (show endsLo n l = 2 * l - (2147483648 * (n - 1) / n) ∧ endsHi n l b = 2 * (l + b) - 2147483648 * (n - 1) / n by
        unfold endsLo endsHi; rw [if_neg h, if_neg h, if_neg h3, Int.add_zero]; exact ⟨rfl, rfl⟩)
      go_enter Tryz.func133, Tryz.ntmps133
      go_wp2
      go_quiet (fail)
      go_wp2
      go_ret2
      exact ⟨ret_int2 HE.out.1.symm HE.out.2.symm, _, rfl⟩
theorem Ends_any (n : Int) (w : World) :
    Calls Tryz.prog 107 #[.int .i64 n] w fun e w' => e = .returned (.tuple #[.int .i64 (eLo n), .int .i64 (eHi n)]) ∧ ∃ k, w' = w.drewN k := by
  have h := held_bd n
  have h1 := low_bd (held n - 1)
  have h2 := brok_bd (held n - 1)
  go_enter Tryz.func107, Tryz.ntmps107
  go_wp2_with (first
    | (go_at_call 131; refine (held_any _ _).mono ?_; rintro e w' ⟨rfl, rfl⟩)
    | (go_at_call 132; refine (both_any _ _).mono ?_; rintro e w' ⟨rfl, rfl⟩)
    | (go_at_call 133; refine (ends_any _ _ _ _ (by omega) (by omega) (by omega) (by omega) (by omega)).mono ?_; rintro e w' ⟨rfl, k, rfl⟩))
  go_ret2
  exact ⟨rfl, _, rfl⟩
theorem Norm_any (n : Int) (w : World) :
    Calls Tryz.prog 66 #[.int .i64 n] w fun e w' => e = .returned (.int .i64 (norm n)) ∧ ∃ k, w' = w.drewN k := by
  have h1 := eLo_bd n
  have h2 := eHi_bd n
  go_enter Tryz.func66, Tryz.ntmps66
  go_wp2_with (go_at_call 107; refine (Ends_any _ _).mono ?_; rintro e w' ⟨rfl, k, rfl⟩)
  go_ret
  exact ⟨rfl, _, rfl⟩

theorem RLow_any (n : Int) (w : World) :
    Calls Tryz.prog 142 #[.int .i64 n] w fun e w' => e = .returned (.int .i64 (low n)) ∧ w = w' := by
  have hb := held_bd n
  obtain ⟨m, hm⟩ : ∃ m : Nat, held n = m := ⟨(held n).toNat, by omega⟩
  have HL := Lib.hid (show low n = lowN m by unfold low; rw [hm]; rfl)
  have HM := Lib.hid hm
  have hmb : m ≤ 256 := by omega
  clear hm hb
  go_enter Tryz.func142, Tryz.ntmps142
  go_wp2
  go_loop [3, 4] (fun lo i => ∃ k : Nat, k ≤ m ∧ i = .int .i64 ((k : Int) + 1) ∧ lo = .int .i64 (lowN k)) (fun _ i => m + 1 - (intOf i).toNat)
  case atStart => exact ⟨0, Nat.zero_le _, rfl, rfl⟩
  case round =>
    obtain ⟨k, hk, rfl, rfl⟩ := hrel
    have hl := lowN_bd k
    have hu := unit_bd k
    go_wp2_with fail
    refine (Held_any n _).mono ?_
    rintro e w' ⟨rfl, rfl⟩
    rw [HM.out]
    by_cases hlt : k < m
    · go_wp2
      go_round
      case rel => exact ⟨k + 1, by omega, by go_num, rfl⟩
      case measure => simp [intOf]; omega
    · go_wp2
      go_ret
      have : k = m := by omega
      subst this
      exact ⟨ret_int HL.out.symm, rfl⟩
theorem high_step (k : Nat) : ((1073741824 : Int) + ((k : Int) + 1) - 1) / ((k : Int) + 1) = 1073741824 / ((k : Int) + 1) + (if 0 < 1073741824 % ((k : Int) + 1) then 1 else 0) := ceil_eq _ _ (by omega)
theorem RHigh_any (n : Int) (w : World) :
    Calls Tryz.prog 143 #[.int .i64 n] w fun e w' => e = .returned (.int .i64 (low n + brok n)) ∧ w = w' := by
  have hb := held_bd n
  obtain ⟨m, hm⟩ : ∃ m : Nat, held n = m := ⟨(held n).toNat, by omega⟩
  have HL := Lib.hid (show low n + brok n = lowN m + brokenN m by unfold low brok; rw [hm]; rfl)
  have HM := Lib.hid hm
  have hmb : m ≤ 256 := by omega
  clear hm hb
  go_enter Tryz.func143, Tryz.ntmps143
  go_wp2
  go_loop [3, 4] (fun lo i => ∃ k : Nat, k ≤ m ∧ i = .int .i64 ((k : Int) + 1) ∧ lo = .int .i64 (lowN k + brokenN k)) (fun _ i => m + 1 - (intOf i).toNat)
  case atStart => exact ⟨0, Nat.zero_le _, rfl, rfl⟩
  case round =>
    obtain ⟨k, hk, rfl, rfl⟩ := hrel
    have hl := lowN_bd k
    have hbk := brokenN_bd k
    have hu : 0 ≤ ((1073741824 : Int) + ((k : Int) + 1) - 1) / ((k : Int) + 1) ∧ ((1073741824 : Int) + ((k : Int) + 1) - 1) / ((k : Int) + 1) ≤ 1073742081 :=
      ⟨Int.ediv_nonneg (by omega) (by omega), by have := Int.ediv_le_self (a := (1073741824 : Int) + ((k : Int) + 1) - 1) ((k : Int) + 1) (by omega); omega⟩
    have HS := Lib.hid (high_step k)
    go_wp2_with fail
    refine (Held_any n _).mono ?_
    rintro e w' ⟨rfl, rfl⟩
    rw [HM.out]
    by_cases hlt : k < m
    · go_wp2
      go_round
      case rel => refine ⟨k + 1, by omega, by go_num, ?_⟩; simp only [lowN, brokenN]; have := HS.out; congr 1; omega
      case measure => simp [intOf]; omega
    · go_wp2
      go_ret
      have : k = m := by omega
      subst this
      exact ⟨ret_int HL.out.symm, rfl⟩
theorem REnds_any (n : Int) (w : World) :
    Calls Tryz.prog 120 #[.int .i64 n] w fun e w' => e = .returned (.tuple #[.int .i64 (eLo n), .int .i64 (eHi n)]) ∧ ∃ k, w' = w.drewN k := by
  have h := held_bd n
  have h1 := low_bd (held n - 1)
  have h2 := brok_bd (held n - 1)
  by_cases h2' : held n < 2
  · have HE := Lib.hid (show eLo n = 0 ∧ eHi n = 0 by unfold eLo eHi endsLo endsHi; rw [if_pos h2', if_pos h2']; exact ⟨rfl, rfl⟩)
    go_enter Tryz.func120, Tryz.ntmps120
    go_wp2_with (go_at_call 141; refine (Held_any _ _).mono ?_; rintro e w' ⟨rfl, rfl⟩)
    go_ret2
    exact ⟨ret_int2 HE.out.1.symm HE.out.2.symm, 0, rfl⟩
  · have HE := Lib.hid (show eLo n = 2 * low (held n - 1) - ((2147483648 * (held n - 1) + held n - 1) / held n) ∧ eHi n = 2 * (low (held n - 1) + brok (held n - 1)) - 2147483648 * (held n - 1) / held n by
      unfold eLo eHi endsLo endsHi; rw [if_neg h2', if_neg h2', ceil_eq _ _ (by omega)]; exact ⟨rfl, rfl⟩)
    have hs := share_bd (held n) (by omega)
    have hc := ceil_eq (2147483648 * (held n - 1)) (held n) (by omega)
    have hcb : 0 ≤ (2147483648 * (held n - 1) + held n - 1) / held n ∧ (2147483648 * (held n - 1) + held n - 1) / held n ≤ 2147483649 := by
      rw [hc]; split <;> omega
    obtain ⟨H, hH⟩ : ∃ H, held n = H := ⟨_, rfl⟩
    have HH := Lib.hid hH
    rw [hH] at h h1 h2 h2' HE hs hcb
    clear hH hc
    go_enter Tryz.func120, Tryz.ntmps120
    go_wp2_with fail
    refine (Held_any _ _).mono ?_
    rintro e w' ⟨rfl, rfl⟩
    rw [HH.out]
    go_wp2_with fail
    go_quiet ((first | (go_at_call 142; exact Calls.quiet_of_same (quiet_of_left (RLow_any _ _))) | (go_at_call 143; exact Calls.quiet_of_same (quiet_of_left (RHigh_any _ _)))))
    go_wp2
    go_ret2
    exact ⟨ret_int2 HE.out.1.symm HE.out.2.symm, _, rfl⟩
theorem RNorm_any (n : Int) (w : World) :
    Calls Tryz.prog 85 #[.int .i64 n] w fun e w' => e = .returned (.int .i64 (norm n)) ∧ ∃ k, w' = w.drewN k := by
  have h1 := eLo_bd n
  have h2 := eHi_bd n
  go_enter Tryz.func85, Tryz.ntmps85
  go_wp2_with (go_at_call 120; refine (REnds_any _ _).mono ?_; rintro e w' ⟨rfl, k, rfl⟩)
  go_ret
  exact ⟨rfl, _, rfl⟩
set_option maxHeartbeats 1000000 in
set_option maxRecDepth 100000 in
theorem Div64_lo (lo y : Int) (w : World) (h0 : 0 ≤ lo) (h1 : lo ≤ 18446744073709551615) (y0 : 1 ≤ y) (y1 : y ≤ 18446744073709551615) :
    Calls Tryz.prog 108 #[.int .u64 0, .int .u64 lo, .int .u64 y] w fun e w' => e = .returned (.tuple #[.int .u64 (lo / y), .int .u64 (lo % y)]) ∧ Below w.heap.size w w' := by
  have hy : (y == 0) = false := by simpa using (by omega : y ≠ 0)
  go_enter Tryz.func108, Tryz.ntmps108
  go_wp2_with fail
  go_quiet (fail)
  go_wp2
  refine bodyPost_ret (v := .tuple #[.int .u64 (lo / y), .int .u64 (lo % y)]) (by simp [results, Tryz.results108, go_sem]) rfl ?_
  exact ⟨rfl, below_drewN (Below.refl _ _) _⟩
set_option maxHeartbeats 1000000 in
theorem WDiv_lo (lo y : Int) (w : World) (h0 : 0 ≤ lo) (h1 : lo ≤ 18446744073709551615) (y0 : 1 ≤ y) (y1 : y ≤ 18446744073709551615) :
    Calls Tryz.prog 67 #[.agg #[.int .u64 0, .int .u64 lo], .int .u64 y] w fun e w' => e = .returned (.tuple #[.agg #[.int .u64 0, .int .u64 (lo / y)], .int .u64 (lo % y), .int .i64 0]) ∧ Below w.heap.size w w' := by
  have hy : (y == 0) = false := by simpa using (by omega : y ≠ 0)
  have z1 : (0 : Int) / y = 0 := by simp
  have z2 : (0 : Int) % y = 0 := by simp
  obtain ⟨a, ea⟩ : ∃ a, lo / y = a := ⟨_, rfl⟩
  obtain ⟨b, eb⟩ : ∃ b, lo % y = b := ⟨_, rfl⟩
  rw [ea, eb]
  have EA := Lib.hid ea
  have EB := Lib.hid eb
  clear ea eb
  go_enter Tryz.func67, Tryz.ntmps67
  go_wp2_with fail
  go_quiet (fail)
  go_wp2_with fail
  refine (Div64_lo lo y _ h0 h1 y0 y1).mono ?_
  rintro e w1 ⟨rfl, hb1⟩
  rw [EA.out, EB.out]
  obtain ⟨k0, k1, u0, u1, hz⟩ := keepR hb1 (r := w.heap.size + 1) (c0 := .int .u64 0) (c1 := .int .u64 0) (by go_simp) (by go_simp) (by go_simp) (by go_simp)
  have hb := (below_drewN (below_alloc2 w _ _) _).trans (hb1.mono (below_drewN (below_alloc2 w _ _) _).size)
  clear hb1
  go_wp2
  refine bodyPost_ret (v := .tuple #[.agg #[.int .u64 0, .int .u64 a], .int .u64 b, .int .i64 0]) (by simp [results, Tryz.results67, go_sem, k0, k1]) rfl ?_
  exact ⟨rfl, Below.setCell (Below.setCell hb (by show w.heap.size ≤ w.heap.size + 1; omega) _) (by show w.heap.size ≤ w.heap.size + 1; omega) _⟩
/-- is a score right? -/
def isS (p q : Int) : Bool := decide (1 ≤ q ∧ q ≤ 16 ∧ 0 ≤ p ∧ p ≤ 274877906944 ∧ g p q = 1)
theorem isS_true {p q : Int} (h : isS p q = true) : 1 ≤ q ∧ q ≤ 16 ∧ 0 ≤ p ∧ p ≤ 274877906944 ∧ g p q = 1 := of_decide_eq_true h
theorem isS_no {p q : Int} (h : ¬ (1 ≤ q ∧ q ≤ 16 ∧ 0 ≤ p ∧ p ≤ 274877906944)) : isS p q = false := decide_eq_false (fun k => h ⟨k.1, k.2.1, k.2.2.1, k.2.2.2.1⟩)
theorem isS_g {p q : Int} (h1 : 1 ≤ q) (h2 : q ≤ 16) (h3 : 0 ≤ p) (h4 : p ≤ 274877906944) : (gcdV p q == 1) = isS p q := by
  have hb := g_le_right p q (by omega)
  rw [(gcd_in (a := p) (b := q) (by omega)).1]
  unfold isS
  by_cases hg : g p q = 1
  · rw [decide_eq_true ⟨h1, h2, h3, h4, hg⟩, hg]; rfl
  · rw [decide_eq_false (fun k => hg k.2.2.2.2)]; simpa using hg
set_option maxHeartbeats 1000000 in
theorem SIs_any (p q : Int) (w : World) (hf : Fit p q) :
    Calls Tryz.prog 65 #[.agg #[.int .i64 p, .int .i64 q]] w fun e w' => e = .returned (.bool (isS p q)) ∧ Below w.heap.size w w' := by
  obtain ⟨⟨p0, p1⟩, q0, q1⟩ := hf
  by_cases hok : 1 ≤ q ∧ q ≤ 16 ∧ 0 ≤ p ∧ p ≤ 274877906944
  · obtain ⟨h1, h2, h3, h4⟩ := hok
    have HG := Lib.hid (isS_g h1 h2 h3 h4)
    go_enter Tryz.func65, Tryz.ntmps65
    go_wp2_with fail
    refine (Gcd_any p q _ p0 p1 q0 q1).mono ?_
    rintro e w1 ⟨rfl, k, rfl⟩
    go_wp2
    go_ret
    exact ⟨ret_bool HG.out, below_drewN (below_alloc1 _ _) _⟩
  · have HN := Lib.hid (isS_no hok)
    by_cases h0 : q < 1
    · go_enter Tryz.func65, Tryz.ntmps65
      go_wp2
      go_ret
      exact ⟨ret_bool HN.out.symm, below_alloc1 _ _⟩
    · skip
      by_cases h1 : 16 < q
      · go_enter Tryz.func65, Tryz.ntmps65
        go_wp2
        go_ret
        exact ⟨ret_bool HN.out.symm, below_alloc1 _ _⟩
      · skip
        by_cases h2 : p < 0
        · go_enter Tryz.func65, Tryz.ntmps65
          go_wp2
          go_ret
          exact ⟨ret_bool HN.out.symm, below_alloc1 _ _⟩
        · skip
          have h3 : 274877906944 < p := by omega
          clear hok
          go_enter Tryz.func65, Tryz.ntmps65
          go_wp2
          go_ret
          exact ⟨ret_bool HN.out.symm, below_alloc1 _ _⟩
set_option maxHeartbeats 1000000 in
theorem RSIs_any (p q : Int) (w : World) (hf : Fit p q) :
    Calls Tryz.prog 84 #[.agg #[.int .i64 p, .int .i64 q]] w fun e w' => e = .returned (.bool (isS p q)) ∧ Below w.heap.size w w' := by
  obtain ⟨⟨p0, p1⟩, q0, q1⟩ := hf
  by_cases hok : 1 ≤ q ∧ q ≤ 16 ∧ 0 ≤ p ∧ p ≤ 274877906944
  · obtain ⟨h1, h2, h3, h4⟩ := hok
    have HG := Lib.hid (isS_g h1 h2 h3 h4)
    go_enter Tryz.func84, Tryz.ntmps84
    go_wp2_with fail
    refine (RGcd_any p q _ p0 p1 q0 q1).mono ?_
    rintro e w1 ⟨rfl, hb1⟩
    go_wp2
    go_ret
    exact ⟨ret_bool HG.out, bt hb1 (below_alloc1 _ _)⟩
  · have HN := Lib.hid (isS_no hok)
    by_cases h0 : q < 1
    · go_enter Tryz.func84, Tryz.ntmps84
      go_wp2
      go_ret
      exact ⟨ret_bool HN.out.symm, below_alloc1 _ _⟩
    · skip
      by_cases h1 : 16 < q
      · go_enter Tryz.func84, Tryz.ntmps84
        go_wp2
        go_ret
        exact ⟨ret_bool HN.out.symm, below_alloc1 _ _⟩
      · skip
        by_cases h2 : p < 0
        · go_enter Tryz.func84, Tryz.ntmps84
          go_wp2
          go_ret
          exact ⟨ret_bool HN.out.symm, below_alloc1 _ _⟩
        · skip
          have h3 : 274877906944 < p := by omega
          clear hok
          go_enter Tryz.func84, Tryz.ntmps84
          go_wp2
          go_ret
          exact ⟨ret_bool HN.out.symm, below_alloc1 _ _⟩


theorem norm_fin : ∀ k : Fin 63, 1 ≤ norm ((k.val : Int) + 2) := by decide +kernel
theorem norm_pos {n : Int} (h1 : 2 ≤ n) (h2 : n ≤ 64) : 1 ≤ norm n ∧ norm n ≤ 549755814400 := by
  have a := eLo_bd n
  have b := eHi_bd n
  have h := norm_fin ⟨(n - 2).toNat, by omega⟩
  rw [show (((n - 2).toNat : Nat) : Int) + 2 = n by omega] at h
  exact ⟨h, by unfold norm; omega⟩
def lvl (p q n : Int) : Int := norm n * q * 1000 / (norm n * q + p)
def levelV (p q n : Int) : Int := if (2 ≤ n ∧ n ≤ 64) ∧ isS p q = true then lvl p q n else 0
def levelE (p q n : Int) : Int := if ¬ (2 ≤ n ∧ n ≤ 64) then 1 else if isS p q = true then 0 else 130
theorem level_arg {p q n : Int} (h : ¬ (2 ≤ n ∧ n ≤ 64)) : levelV p q n = 0 ∧ levelE p q n = 1 := by
  unfold levelV levelE; rw [if_neg (fun k => h k.1), if_pos h]; exact ⟨rfl, rfl⟩
theorem level_no {p q n : Int} (h : 2 ≤ n ∧ n ≤ 64) (hs : isS p q = false) : levelV p q n = 0 ∧ levelE p q n = 130 := by
  unfold levelV levelE; rw [if_neg (by rw [hs]; exact fun k => by cases k.2), if_neg (fun k => k h), hs]; exact ⟨rfl, rfl⟩
theorem level_yes {p q n : Int} (h : 2 ≤ n ∧ n ≤ 64) (hs : isS p q = true) : levelV p q n = lvl p q n ∧ levelE p q n = 0 := by
  unfold levelV levelE; rw [if_pos ⟨h, hs⟩, if_neg (fun k => k h), if_pos hs]; exact ⟨rfl, rfl⟩
theorem c_bd {n q : Int} (h : 1 ≤ norm n ∧ norm n ≤ 549755814400) (h1 : 1 ≤ q) (h2 : q ≤ 16) : 1 ≤ norm n * q ∧ norm n * q ≤ 8796093030400 := by
  have a := Int.mul_le_mul h.2 h2 (by omega) (by omega)
  have b := Int.mul_pos (show 0 < norm n by omega) (show 0 < q by omega)
  exact ⟨by omega, by omega⟩
theorem WMul_lvl (C : Int) (h0 : 1 ≤ C) (h1 : C ≤ 8796093030400) (w : World) : Calls Tryz.prog 64 #[.int .u64 1000, .int .u64 C] w fun e w' => e = .returned (.agg #[.int .u64 0, .int .u64 (C * 1000)]) ∧ Below w.heap.size w w' := by
  have h := WMul_any 1000 C w (by omega) (by omega) (by omega) (by omega)
  rw [show (1000 * C / 18446744073709551616 : Int) = 0 by omega, show (1000 * C % 18446744073709551616 : Int) = C * 1000 by omega] at h
  exact h
set_option maxHeartbeats 2000000 in
set_option maxRecDepth 100000 in
theorem Level_any (p q n : Int) (w : World) (h1 : Fit p q) :
    Calls Tryz.prog 36 #[.agg #[.int .i64 p, .int .i64 q], .int .i64 n] w fun e w' => e = .returned (.tuple #[.int .i64 (levelV p q n), .int .i64 (levelE p q n)]) ∧ Below w.heap.size w w' := by
  by_cases ha : n < 2
  · have F := Lib.hid (level_arg (p := p) (q := q) (n := n) (by omega))
    go_enter Tryz.func36, Tryz.ntmps36
    go_wp2
    go_ret2
    exact ⟨ret_int2 F.out.1.symm F.out.2.symm, below_alloc1 _ _⟩
  by_cases hb : 64 < n
  · have F := Lib.hid (level_arg (p := p) (q := q) (n := n) (by omega))
    go_enter Tryz.func36, Tryz.ntmps36
    go_wp2
    go_ret2
    exact ⟨ret_int2 F.out.1.symm F.out.2.symm, below_alloc1 _ _⟩
  cases hs : isS p q
  · have F := Lib.hid (level_no (p := p) (q := q) (n := n) (by omega) hs)
    go_enter Tryz.func36, Tryz.ntmps36
    go_wp2_with fail
    refine (SIs_any p q _ h1).mono ?_
    rintro e w1 ⟨rfl, hb1⟩
    go_wp2
    go_ret2
    exact ⟨ret_int2 F.out.1.symm F.out.2.symm, bt hb1 (below_alloc1 _ _)⟩
  · have F := Lib.hid (level_yes (p := p) (q := q) (n := n) (by omega) hs)
    obtain ⟨s1, s2, s3, s4, _⟩ := isS_true hs
    have hcb := c_bd (norm_pos (n := n) (by omega) (by omega)) s1 s2
    have HL := Lib.hid (show lvl p q n = norm n * q * 1000 / (norm n * q + p) from rfl)
    obtain ⟨N, eN⟩ : ∃ N, norm n = N := ⟨_, rfl⟩
    rw [eN] at hcb HL
    obtain ⟨C, eC⟩ : ∃ C, N * q = C := ⟨_, rfl⟩
    rw [eC] at hcb HL
    have EN := Lib.hid eN
    have EC := Lib.hid eC
    have hwN := IntWalk.i64_in C (by omega)
    have hw1 : IntKind.u64.wrap C = C := IntWalk.u64_in _ (by omega)
    have hw2 : IntKind.u64.wrap (C + p) = C + p := IntWalk.u64_in _ (by omega)
    have HW1 := Lib.hid hw1
    have HW2 := Lib.hid hw2
    have HW3 := Lib.hid (IntWalk.i64_in (C + p) (by omega))
    have HS := Lib.hid hs
    clear eN hs
    go_enter Tryz.func36, Tryz.ntmps36
    go_wp2_with fail
    refine (SIs_any p q _ h1).mono ?_
    rintro e w1 ⟨rfl, hb1⟩
    rw [HS.out]
    have c0 := cell_at_below hb1 w.heap.size 0 (.int .i64 p) (by go_simp)
    have c1 := cell_at_below hb1 w.heap.size 1 (.int .i64 q) (by go_simp)
    have hz : w.heap.size < w1.heap.size := Nat.lt_of_lt_of_le (by simp) hb1.size
    have HB1 := Lib.hid (bt hb1 (below_alloc1 w _))
    clear hb1
    go_wp2_with fail
    go_quiet ((go_at_call 66; exact Calls.quiet_of (Norm_any n _)))
    have HBQ := Lib.hid (below_drewN HB1.out nq)
    have c0 : (w1.drewN nq).cell? ⟨w.heap.size, 0, none⟩ = some (.int .i64 p) := c0
    have hz : w.heap.size < (w1.drewN nq).heap.size := hz
    generalize w1.drewN nq = wq at *
    have HDIV := Lib.hid (fun W => WDiv_lo (C * 1000) (C + p) W (by omega) (by omega) (by omega) (by omega))
    have HMUL := Lib.hid (fun W => WMul_lvl C hcb.1 hcb.2 W)
    obtain ⟨L, eL⟩ : ∃ L, C * 1000 / (C + p) = L := ⟨_, rfl⟩
    have hL : 0 ≤ L ∧ L ≤ 1000 := by
      rw [← eL]
      exact ⟨Int.ediv_nonneg (by omega) (by omega), by
        have := Int.ediv_le_of_le_mul (a := C * 1000) (b := 1000) (c := C + p) (by omega) (by omega)
        omega⟩
    have EL := Lib.hid eL
    have e6 : wrap64 (norm n * q) = C := by rw [EN.out, EC.out]; exact IntWalk.wrap64_in C (by omega)
    go_wp2_with fail
    rw [e6]
    clear e6 eL
    have hq1 : wq.heap.size < wq.heap.size + 1 := Nat.lt_add_one _
    have hq1' : w.heap.size < wq.heap.size + 1 := Nat.lt_succ_of_lt hz
    have hn1 := Nat.ne_of_lt hz
    have hn1' := Nat.ne_of_gt hz
    have hq1a : ∀ o, wq.heap.size < (wq.alloc o).heap.size := fun o => (by simp)
    have hq1b : ∀ o, w.heap.size < (wq.alloc o).heap.size := fun o => (by simp; omega)
    go_region_held3 (fun w' => w'.cell? ⟨w.heap.size, 0, none⟩ = some (.int .i64 p))
      (first | (go_keep; done) | (exact e0) | (exact d0))
      ((first | (go_at_call 64; (try rw [HW1.out]); go_must ((with_reducible refine (HMUL.out _).mono ?_)); rintro e w2 ⟨rfl, hb2⟩; have d0 := cell_at_below hb2 w.heap.size 0 (.int .i64 p) (by first | assumption | (go_simp; done) | (simp [*]; done)); have hz2 : w.heap.size < w2.heap.size := Nat.lt_of_lt_of_le (by first | assumption | (simp; omega)) hb2.size; have hz2' := Nat.lt_succ_of_lt hz2; have hn2 := Nat.ne_of_lt hz2; have hn2' := Nat.ne_of_gt hz2; obtain ⟨hc2, hf2⟩ := bcell hb2; have hs2 := hb2.size; have hq4 := fun (n : Nat) h => Nat.lt_of_lt_of_le (n := n) h hs2; clear hs2; have hq2 : w2.heap.size < w2.heap.size + 1 := Nat.lt_add_one _; have hq2' : w.heap.size < w2.heap.size + 1 := Nat.lt_succ_of_lt hz2; have hq2a : ∀ o, w2.heap.size < (w2.alloc o).heap.size := fun o => (by simp); have hq2b : ∀ o, w.heap.size < (w2.alloc o).heap.size := fun o => (by simp; omega)) | (go_at_call 67; (try rw [HW3.out]); (try rw [HW2.out]); go_must ((with_reducible refine (HDIV.out _).mono ?_)); rintro e w3 ⟨rfl, hb3⟩; rw [EL.out]; have e0 := cell_at_below hb3 w.heap.size 0 (.int .i64 p) (by first | assumption | (go_simp; done) | (simp [*]; done)); have hz3 : w.heap.size < w3.heap.size := Nat.lt_of_lt_of_le (by first | assumption | (simp; omega)) hb3.size; have hz3' := Nat.lt_succ_of_lt hz3; have hn3 := Nat.ne_of_lt hz3; have hn3' := Nat.ne_of_gt hz3; obtain ⟨hc3, hf3⟩ := bcell hb3; have hs3 := hb3.size; have hq5 := fun (n : Nat) h => Nat.lt_of_lt_of_le (n := n) h hs3; clear hs3; have hq3 : w3.heap.size < w3.heap.size + 1 := Nat.lt_add_one _; have hq3' : w.heap.size < w3.heap.size + 1 := Nat.lt_succ_of_lt hz3)))
    rotate_left 2
    have p0 : w3.cell? ⟨wq.heap.size, 0, none⟩ = some (.int .u64 0) := cell_at_below hb3 _ _ _ (cell_at_below hb2 _ _ _ (by go_simp))
    have p1 : w3.cell? ⟨wq.heap.size, 1, none⟩ = some (.int .u64 0) := cell_at_below hb3 _ _ _ (cell_at_below hb2 _ _ _ (by go_simp))
    have p2 : w3.frozen? ⟨wq.heap.size, 0, none⟩ = false := free_at_below hb3 _ _ (free_at_below hb2 _ _ (by go_simp) (by go_simp)) (hq4 _ (by go_simp))
    have p3 : w3.frozen? ⟨wq.heap.size, 1, none⟩ = false := free_at_below hb3 _ _ (free_at_below hb2 _ _ (by go_simp) (by go_simp)) (hq4 _ (by go_simp))
    have p4 : wq.heap.size < w3.heap.size := hq5 _ (hq4 _ (by go_simp))
    all_goals
      have hwL := IntWalk.i64_in L (by omega)
      go_wp2
      go_ret2
      refine ⟨ret_int2 (by rw [F.out.1, HL.out, EL.out]) F.out.2.symm, ?_⟩
      repeat' (first | exact HBQ.out | refine Below.setCell ?_ ?_ _ | refine Below.alloc ?_ ?_ _ | refine Below.drew ?_ | refine bt hb3 ?_ | refine bt hb2 ?_)
      all_goals (first | omega | (show w.heap.size ≤ w3.heap.size; omega) | (show w.heap.size ≤ w2.heap.size; omega) | (show w.heap.size ≤ wq.heap.size; omega))
set_option maxHeartbeats 1000000 in
theorem RLevel_any (p q n : Int) (w : World) (h1 : Fit p q) :
    Calls Tryz.prog 48 #[.agg #[.int .i64 p, .int .i64 q], .int .i64 n] w fun e w' => e = .returned (.tuple #[.int .i64 (levelV p q n), .int .i64 (levelE p q n)]) ∧ Below w.heap.size w w' := by
  by_cases ha : n < 2
  · have F := Lib.hid (level_arg (p := p) (q := q) (n := n) (by omega))
    go_enter Tryz.func48, Tryz.ntmps48
    go_wp2
    go_ret2
    exact ⟨ret_int2 F.out.1.symm F.out.2.symm, below_alloc1 _ _⟩
  by_cases hb : 64 < n
  · have F := Lib.hid (level_arg (p := p) (q := q) (n := n) (by omega))
    go_enter Tryz.func48, Tryz.ntmps48
    go_wp2
    go_ret2
    exact ⟨ret_int2 F.out.1.symm F.out.2.symm, below_alloc1 _ _⟩
  cases hs : isS p q
  · have F := Lib.hid (level_no (p := p) (q := q) (n := n) (by omega) hs)
    go_enter Tryz.func48, Tryz.ntmps48
    go_wp2_with fail
    refine (RSIs_any p q _ h1).mono ?_
    rintro e w1 ⟨rfl, hb1⟩
    go_wp2
    go_ret2
    exact ⟨ret_int2 F.out.1.symm F.out.2.symm, bt hb1 (below_alloc1 _ _)⟩
  · have F := Lib.hid (level_yes (p := p) (q := q) (n := n) (by omega) hs)
    obtain ⟨s1, s2, s3, s4, _⟩ := isS_true hs
    have hcb := c_bd (norm_pos (n := n) (by omega) (by omega)) s1 s2
    have HL := Lib.hid (show lvl p q n = norm n * q * 1000 / (norm n * q + p) from rfl)
    obtain ⟨N, eN⟩ : ∃ N, norm n = N := ⟨_, rfl⟩
    rw [eN] at hcb HL
    obtain ⟨C, eC⟩ : ∃ C, N * q = C := ⟨_, rfl⟩
    rw [eC] at hcb HL
    have EN := Lib.hid eN
    have EC := Lib.hid eC
    have HS := Lib.hid hs
    clear eN hs eC
    go_enter Tryz.func48, Tryz.ntmps48
    go_wp2_with fail
    refine (RSIs_any p q _ h1).mono ?_
    rintro e w1 ⟨rfl, hb1⟩
    rw [HS.out]
    have c0 := cell_at_below hb1 w.heap.size 0 (.int .i64 p) (by go_simp)
    have c1 := cell_at_below hb1 w.heap.size 1 (.int .i64 q) (by go_simp)
    have HB1 := Lib.hid (bt hb1 (below_alloc1 w _))
    clear hb1
    go_wp2_with fail
    go_quiet ((go_at_call 85; exact Calls.quiet_of (RNorm_any n _)))
    have HBQ := Lib.hid (below_drewN HB1.out nq)
    have e6 : wrap64 (norm n * q) = C := by rw [EN.out, EC.out]; exact IntWalk.wrap64_in C (by omega)
    have hz : (C + p == 0) = false := by simpa using (by omega : C + p ≠ 0)
    have hdv : wrap64 ((C * 1000).tdiv (C + p)) = C * 1000 / (C + p) := by
      rw [Int.tdiv_eq_ediv_of_nonneg (by omega)]
      have a := Int.ediv_nonneg (show 0 ≤ C * 1000 by omega) (show 0 ≤ C + p by omega)
      have b := Int.ediv_le_self (C + p) (show 0 ≤ C * 1000 by omega)
      exact IntWalk.wrap64_in _ (by omega)
    go_wp2_with fail
    go_ret2
    refine ⟨ret_int2 ?_ F.out.2.symm, HBQ.out⟩
    rw [F.out.1, HL.out]
end Go.Proofs.YtcaeihfgdlffkaaGreatRRRRDoor.ScoX

/- Sums that are longer than a number, plainly: three words of 64 bits, as two's complement. No program is in sight. -/
namespace Go.Proofs.YtcaeihfgdlffkaaGreatRRRRDoor.RptN
set_option linter.unusedVariables false
set_option linter.unusedSimpArgs false

/-- the words of a number -/
def wd0 (z : Int) : Int := z % 18446744073709551616
def wd1 (z : Int) : Int := z / 18446744073709551616 % 18446744073709551616
def wd2 (z : Int) : Int := z / 18446744073709551616 / 18446744073709551616 % 18446744073709551616
theorem wd_range (z : Int) : (0 ≤ wd0 z ∧ wd0 z < 18446744073709551616) ∧ (0 ≤ wd1 z ∧ wd1 z < 18446744073709551616) ∧ (0 ≤ wd2 z ∧ wd2 z < 18446744073709551616) := by
  unfold wd0 wd1 wd2; omega
/-- the carries of a sum -/
def cr0 (a b : Int) : Int := (wd0 a + wd0 b) / 18446744073709551616
def cr1 (a b : Int) : Int := (wd1 a + wd1 b + cr0 a b) / 18446744073709551616
theorem cr_range (a b : Int) : (0 ≤ cr0 a b ∧ cr0 a b ≤ 1) ∧ (0 ≤ cr1 a b ∧ cr1 a b ≤ 1) := by
  have h1 := wd_range a
  have h2 := wd_range b
  have h3 : 0 ≤ cr0 a b ∧ cr0 a b ≤ 1 := by unfold cr0; omega
  exact ⟨h3, by unfold cr1; omega⟩
theorem add_wd0 (a b : Int) : wd0 (a + b) = (wd0 a + wd0 b) % 18446744073709551616 := by unfold wd0; omega
theorem add_div (a b : Int) : (a + b) / 18446744073709551616 = a / 18446744073709551616 + b / 18446744073709551616 + cr0 a b := by unfold cr0 wd0; omega
theorem add_wd1 (a b : Int) : wd1 (a + b) = (wd1 a + wd1 b + cr0 a b) % 18446744073709551616 := by
  have := add_div a b
  unfold wd1
  rw [this]
  omega
theorem add_wd2 (a b : Int) : wd2 (a + b) = (wd2 a + wd2 b + cr1 a b) % 18446744073709551616 := by
  have h1 := add_div a b
  have h2 := (cr_range a b).1
  unfold wd2
  rw [h1]
  unfold cr1 wd1
  omega
/-- a size of one word, and what is taken off: the other bits, and one more -/
theorem neg_wd (n : Int) (h0 : 0 ≤ n) (h1 : n < 18446744073709551616) : wd0 (-n) = (18446744073709551615 - n + 1) % 18446744073709551616 ∧ wd1 (-n) = (18446744073709551615 + (18446744073709551615 - n + 1) / 18446744073709551616) % 18446744073709551616 ∧
    wd2 (-n) = (18446744073709551615 + (18446744073709551615 + (18446744073709551615 - n + 1) / 18446744073709551616) / 18446744073709551616) % 18446744073709551616 := by
  unfold wd0 wd1 wd2; omega
theorem pos_wd (n : Int) (h0 : 0 ≤ n) (h1 : n < 18446744073709551616) : wd0 n = n ∧ wd1 n = 0 ∧ wd2 n = 0 := by
  unfold wd0 wd1 wd2; omega
/-- a number that fits: its words are its lowest one and its sign -/
theorem fit_wd (z : Int) (h0 : -9223372036854775808 ≤ z) (h1 : z ≤ 9223372036854775807) : (if wd0 z < 9223372036854775808 then wd0 z else wd0 z - 18446744073709551616) = z ∧ (z < 0 → wd1 z = 18446744073709551615 ∧ wd2 z = 18446744073709551615) ∧ (0 ≤ z → wd1 z = 0 ∧ wd2 z = 0) := by
  refine ⟨?_, fun h => ?_, fun h => ?_⟩
  · unfold wd0; split <;> omega
  · unfold wd1 wd2; omega
  · unfold wd1 wd2; omega
end Go.Proofs.YtcaeihfgdlffkaaGreatRRRRDoor.RptN

/- num.Sum, walked: a sum that is longer than a number. -/
namespace Go.Proofs.YtcaeihfgdlffkaaGreatRRRRDoor.LngW
set_option linter.unusedVariables false
set_option linter.unusedSimpArgs false
open Go.RowKit Base BigZ RptN RptM RptC WidX SeqM

/-- a long sum as a value -/
def LV (z : Int) : Value := .agg #[.int .u64 (wd0 z), .int .u64 (wd1 z), .int .u64 (wd2 z)]
set_option maxHeartbeats 1000000 in
theorem fits_any (z : Int) (h0 : -9223372036854775808 ≤ z) (h1 : z ≤ 9223372036854775807) (w : World) :
    Calls Tryz.prog 100 #[LV z] w fun e w' => e = .returned (.tuple #[.int .i64 z, .int .i64 0]) ∧ Below w.heap.size w w' := by
  have hf := fit_wd z h0 h1
  have hr := wd_range z
  have hw : IntKind.i64.wrap (wd0 z) = z := by
    have h3 := hf.1
    unfold IntKind.wrap
    simp [IntKind.bits, IntKind.signed]
    split at h3 <;> omega
  unfold LV
  by_cases hz : z < 0
  · obtain ⟨e1, e2⟩ := hf.2.1 hz
    rw [e1, e2]
    generalize wd0 z = a at *
    clear hf hr e1 e2
    go_enter Tryz.func100, Tryz.ntmps100
    have HX := Lib.hid (show (18446744073709551615 : Int) = bits .xor .u64 IntKind.u64.max 0 by decide)
    go_wp2
    all_goals first
      | (go_ret2; exact ⟨rfl, below_alloc1 _ _⟩)
      | exact absurd HX.out (by assumption)
  · obtain ⟨e1, e2⟩ := hf.2.2 (by omega)
    rw [e1, e2]
    generalize wd0 z = a at *
    clear hf hr e1 e2
    go_enter Tryz.func100, Tryz.ntmps100
    go_wp2
    go_ret2
    exact ⟨rfl, below_alloc1 _ _⟩
/-- the other bits -/
theorem xor_max {x : Int} (h0 : 0 ≤ x) (h1 : x < 18446744073709551616) : bits .xor .u64 IntKind.u64.max x = 18446744073709551615 - x := by
  obtain ⟨n, rfl⟩ := Int.eq_ofNat_of_zero_le h0
  have hn : n < 2 ^ 64 := by omega
  unfold bits
  show IntKind.u64.wrap (((BitVec.ofInt 64 (18446744073709551615 : Int)) ^^^ (BitVec.ofInt 64 (n : Int))).toNat : Int) = _
  have e1 : BitVec.ofInt 64 (18446744073709551615 : Int) = BitVec.allOnes 64 := by decide
  rw [e1, BitVec.ofInt_natCast, BitVec.allOnes_xor, BitVec.toNat_not, BitVec.toNat_ofNat, Nat.mod_eq_of_lt hn]
  have e2 : ((2 ^ 64 - 1 - n : Nat) : Int) = 18446744073709551615 - (n : Int) := by omega
  rw [e2]
  exact IntWalk.u64_in _ (by omega)
end Go.Proofs.YtcaeihfgdlffkaaGreatRRRRDoor.LngW
