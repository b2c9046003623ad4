/- The walks of copseref05.Ends, Norm, of both Tables, of both Fracs, of the law's sum, and of copseref01.Same. -/
import Derived.Test.YtkbojgjhhdbjgaaHarmW
namespace Go.Proofs.Ytkbojgjhhdbjgaa.HarmW
set_option linter.unusedVariables false
open Go.RowKit Base BigM BigW BigZ GcdW GcdM RatM RatW RefRat HarmM

theorem REnds_any (n : Int) (w : World) :
    Calls Try.prog 8 #[.int .i64 n] w fun e w' => e = .returned (.tuple #[.int .i64 (eLo n), .int .i64 (eHi n)]) ∧ ∃ k, w' = w.drewN k := by
  have h := held_bd n
  have h1 := low_bd (held n - 1)
  have h2 := brok_bd (held n - 1)
  by_cases h2' : held n < 2
  · have HE := Lib.hid (show eLo n = 0 ∧ eHi n = 0 by unfold eLo eHi endsLo endsHi; rw [if_pos h2', if_pos h2']; exact ⟨rfl, rfl⟩)
    go_enter Try.func8, Try.ntmps8
    go_wp2_with (go_at_call 19; refine (Held_any _ _).mono ?_; rintro e w' ⟨rfl, rfl⟩)
    go_ret2
    exact ⟨ret_int2 HE.out.1.symm HE.out.2.symm, 0, rfl⟩
  · have HE := Lib.hid (show eLo n = 2 * low (held n - 1) - ((2147483648 * (held n - 1) + held n - 1) / held n) ∧ eHi n = 2 * (low (held n - 1) + brok (held n - 1)) - 2147483648 * (held n - 1) / held n by
      unfold eLo eHi endsLo endsHi; rw [if_neg h2', if_neg h2', ceil_eq _ _ (by omega)]; exact ⟨rfl, rfl⟩)
    have hs := share_bd (held n) (by omega)
    have hc := ceil_eq (2147483648 * (held n - 1)) (held n) (by omega)
    have hcb : 0 ≤ (2147483648 * (held n - 1) + held n - 1) / held n ∧ (2147483648 * (held n - 1) + held n - 1) / held n ≤ 2147483649 := by
      rw [hc]; split <;> omega
    obtain ⟨H, hH⟩ : ∃ H, held n = H := ⟨_, rfl⟩
    have HH := Lib.hid hH
    rw [hH] at h h1 h2 h2' HE hs hcb
    clear hH hc
    go_enter Try.func8, Try.ntmps8
    go_wp2_with fail
    refine (Held_any _ _).mono ?_
    rintro e w' ⟨rfl, rfl⟩
    rw [HH.out]
    go_wp2_with fail
    go_quiet ((first | (go_at_call 10; exact Calls.quiet_of_same (quiet_of_left (RLow_any _ _))) | (go_at_call 12; exact Calls.quiet_of_same (quiet_of_left (RHigh_any _ _)))))
    go_wp2
    go_ret2
    exact ⟨ret_int2 HE.out.1.symm HE.out.2.symm, _, rfl⟩
theorem RNorm_any (n : Int) (w : World) :
    Calls Try.prog 14 #[.int .i64 n] w fun e w' => e = .returned (.int .i64 (norm n)) ∧ ∃ k, w' = w.drewN k := by
  have h1 := eLo_bd n
  have h2 := eHi_bd n
  go_enter Try.func14, Try.ntmps14
  go_wp2_with (go_at_call 8; refine (REnds_any _ _).mono ?_; rintro e w' ⟨rfl, k, rfl⟩)
  go_ret
  exact ⟨rfl, _, rfl⟩
/-- the averages of 0, 1 .. -/
def tab (k : Nat) : List Int := (List.range k).map fun i : Nat => norm (i : Int)
theorem tab_succ (k : Nat) : tab (k + 1) = tab k ++ [norm k] := by simp [tab, List.range_succ]
theorem tab_len (k : Nat) : (tab k).length = k := by simp [tab]
/-- A slice of integers that reads as l. -/
def Ints (w : World) (lo B : Nat) (v : Value) (l : List Int) : Prop := ∃ A cap, v = .slice A l.length cap ∧ l.length ≤ cap ∧ cap ≤ maxLen ∧ Rd w lo B 1 A l.length (l.map (Value.int .i64))
theorem Ints.of_own {w : World} {base : Nat} {A : Option Addr} {n cap : Nat} {e : TypeId} {l : List Int} (h : w.ownsRow base e 1 (.slice A n cap) n (l.map (Value.int .i64))) : Ints w base w.heap.size (.slice A n cap) l := by
  have hl : l.length = n := by simpa using h.1
  obtain ⟨h1, h2⟩ := own_caps h
  subst hl
  exact ⟨A, cap, rfl, h1, h2, Rd.of_own h⟩
theorem Ints.below {w w' : World} {lo B B' : Nat} {v : Value} {l : List Int} (h : Ints w lo B v l) (hb : Below B' w w') (hB : B ≤ B') : Ints w' lo B v l := by
  obtain ⟨A, cap, h1, h2, h3, h4⟩ := h
  exact ⟨A, cap, h1, h2, h3, h4.below' hb hB⟩
theorem Ints.more {w : World} {lo lo' B B' : Nat} {v : Value} {l : List Int} (h : Ints w lo B v l) (hl : lo' ≤ lo) (hB : B ≤ B') : Ints w lo' B' v l := by
  obtain ⟨A, cap, h1, h2, h3, h4⟩ := h
  exact ⟨A, cap, h1, h2, h3, h4.more hl hB⟩
theorem Ints.up {w w' : World} {lo : Nat} {v : Value} {l : List Int} (h : Ints w lo w.heap.size v l) (hb : Below w.heap.size w w') : Ints w' 0 w'.heap.size v l := (h.below hb (Nat.le_refl _)).more (Nat.zero_le _) hb.size

theorem elti : Elt Try.prog 26 3 (.int .i64 0) 1 8 := elt_mk (z := .int .i64 0) Try.underlying26 (by kernel_rfl) rfl (by omega) (by omega)
def TabRel (w : World) (m : Nat) (t i : Value) (wr : World) : Prop :=
  ∃ (k : Nat) (A : Option Addr) (cap : Nat), i = .int .i64 k ∧ k ≤ m + 1 ∧ t = .slice A k cap ∧ wr.ownsRow w.heap.size 3 1 (.slice A k cap) k ((tab k).map (Value.int .i64)) ∧ Below w.heap.size w wr
set_option maxHeartbeats 1000000 in
theorem RTable_any (n : Int) (w : World) :
    Calls Try.prog 17 #[.int .i64 n] w fun e w' => (∃ v, e = .returned v ∧ Ints w' w.heap.size w'.heap.size v (tab ((held n).toNat + 1))) ∧ Below w.heap.size w w' := by
  have hb := held_bd n
  obtain ⟨m, hm⟩ : ∃ m : Nat, held n = m := ⟨(held n).toNat, by omega⟩
  have HM := Lib.hid hm
  have hmb : m ≤ 256 := by omega
  have HT := Lib.hid (show (held n).toNat + 1 = m + 1 by omega)
  clear hm hb
  have H0 := Lib.hid (show TabRel w m (.slice none 0 0) (.int .i64 0) w from ⟨0, none, 0, rfl, by omega, rfl, World.ownsRow_nil _ _ _ _, Below.refl _ _⟩)
  go_enter Try.func17, Try.ntmps17
  go_wp2
  go_loopw [3, 4] (fun t i wr => TabRel w m t i wr) (fun _ i _ => m + 1 - (intOf i).toNat)
  case atStart => exact H0.out
  case round =>
    obtain ⟨k, A, cap, rfl, hk, rfl, hown, hbel⟩ := hrel
    have hsz := hbel.size
    go_wp2_with fail
    refine (Held_any n _).mono ?_
    rintro e w' ⟨rfl, rfl⟩
    rw [HM.out]
    by_cases hlt : k ≤ m
    · go_wp2_with fail
      refine (RNorm_any _ _).mono ?_
      rintro e w' ⟨rfl, q, rfl⟩
      go_wp2_with (at_builtin; refine app1 _ _ rfl (.tmp 11) (.tmp 14) _ rfl elti w.heap.size A k cap _ rfl hown rfl rfl (by simp [Value.oneCell']) (by omega) hsz ?_; intro A' cap' w1 happ)
      go_round
      case rel => exact ⟨k + 1, A', cap', by go_num, by omega, rfl, by rw [tab_succ]; simpa using happ.own, (below_drewN hbel q).trans happ.below⟩
      case measure => simp [intOf]; omega
    · go_wp2
      go_ret
      have : k = m + 1 := by omega
      subst this
      exact ⟨⟨_, rfl, by rw [HT.out]; exact Ints.of_own hown⟩, hbel⟩

/-- how the parts of the points ahead go on: behind k rounds (of the places 0 .. k-1) they are those of k - 2 points -/
def pts (k : Nat) : Nat := k - 2
def HTabRel (w : World) (m : Nat) (t lo br i : Value) (wr : World) : Prop :=
  ∃ (k : Nat) (A : Option Addr) (cap : Nat), i = .int .i64 k ∧ k ≤ m + 1 ∧ t = .slice A k cap ∧ lo = .int .i64 (lowN (k - 2)) ∧ br = .int .i64 (brokenN (k - 2)) ∧ wr.ownsRow w.heap.size 3 1 (.slice A k cap) k ((tab k).map (Value.int .i64)) ∧ Below w.heap.size w wr
theorem norm_small (k : Nat) (hk : k ≤ 256) (h : k < 2) : norm k = 0 ∧ endsLo k (lowN (k - 2)) = 0 ∧ endsHi k (lowN (k - 2)) (brokenN (k - 2)) = 0 := by
  have h1 : held (k : Int) = k := held_held _ (by omega) (by omega)
  unfold norm eLo eHi
  rw [h1]
  unfold endsLo endsHi
  have hlt : (k : Int) < 2 := by omega
  simp [hlt]
theorem norm_big (k : Nat) (hk : k ≤ 256) (h : 2 ≤ k) : norm k = (endsLo k (lowN (k - 1)) + endsHi k (lowN (k - 1)) (brokenN (k - 1))) / 2 ∧ 0 ≤ endsLo k (lowN (k - 1)) ∧ 0 ≤ endsHi k (lowN (k - 1)) (brokenN (k - 1)) ∧ endsLo k (lowN (k - 1)) ≤ 549755813888 ∧ endsHi k (lowN (k - 1)) (brokenN (k - 1)) ≤ 549755814400 := by
  have h1 : held (k : Int) = k := held_held _ (by omega) (by omega)
  have h2 : held ((k : Int) - 1) = ((k - 1 : Nat) : Int) := by rw [held_held _ (by omega) (by omega)]; omega
  have e1 := eLo_bd (k : Int)
  have e2 := eHi_bd (k : Int)
  unfold norm
  unfold eLo eHi at *
  rw [h1] at e1 e2 ⊢
  unfold low brok at *
  rw [h2] at e1 e2 ⊢
  simp only [Int.toNat_natCast] at e1 e2 ⊢
  exact ⟨by first | trivial | rfl, e1.1, e2.1, e1.2, e2.2⟩
theorem low_step (k : Nat) (h : 2 ≤ k) : lowN (k - 1) = lowN (k - 2) + 1073741824 / ((k : Int) - 1) ∧ brokenN (k - 1) = brokenN (k - 2) + (if 0 < 1073741824 % ((k : Int) - 1) then 1 else 0) := by
  obtain ⟨j, rfl⟩ : ∃ j, k = j + 2 := ⟨k - 2, by omega⟩
  have h1 : j + 2 - 1 = j + 1 := by omega
  have h2 : j + 2 - 2 = j := by omega
  have h3 : ((j + 2 : Nat) : Int) - 1 = (j : Int) + 1 := by omega
  rw [h1, h2, h3]
  exact ⟨rfl, rfl⟩
theorem unit_bd' (k : Nat) (h : 2 ≤ k) : 0 ≤ (1073741824 : Int) / ((k : Int) - 1) ∧ (1073741824 : Int) / ((k : Int) - 1) ≤ 1073741824 :=
  ⟨Int.ediv_nonneg (by omega) (by omega), Int.ediv_le_self _ (by omega)⟩
set_option maxHeartbeats 4000000 in
theorem Table_any (n : Int) (w : World) :
    Calls Try.prog 16 #[.int .i64 n] w fun e w' => (∃ v, e = .returned v ∧ Ints w' w.heap.size w'.heap.size v (tab ((held n).toNat + 1))) ∧ Below w.heap.size w w' := by
  have hb := held_bd n
  obtain ⟨m, hm⟩ : ∃ m : Nat, held n = m := ⟨(held n).toNat, by omega⟩
  have HM := Lib.hid hm
  have hmb : m ≤ 256 := by omega
  have HT := Lib.hid (show (held n).toNat + 1 = m + 1 by omega)
  clear hm hb
  go_enter Try.func16, Try.ntmps16
  go_wp2_with fail
  refine (held_any n _).mono ?_
  rintro e w' ⟨rfl, rfl⟩
  rw [HM.out]
  go_wp2_with (at_make; refine mk0 _ rfl (.const (.int .i64 0)) (.tmp 12) _ rfl elti (m + 1) rfl (by rfl) (by omega) (by omega) ?_; intro w1 hown1 hb1)
  have H0 := Lib.hid (show HTabRel w m (.slice (some ⟨w.heap.size, 0, none⟩) 0 (m + 1)) (.int .i64 0) (.int .i64 0) (.int .i64 0) w1 from ⟨0, _, _, rfl, by omega, rfl, rfl, rfl, hown1, hb1⟩)
  go_loopw [3, 4, 5, 16] (fun t lo br i wr => HTabRel w m t lo br i wr) (fun _ _ _ i _ => m + 1 - (intOf i).toNat)
  case atStart => exact H0.out
  case round =>
    obtain ⟨k, A, cap, rfl, hk, rfl, rfl, rfl, hown, hbel⟩ := hrel
    have hsz := hbel.size
    by_cases hlt : k < m + 1
    · by_cases h2 : k < 2
      · obtain ⟨e1, e2, e3⟩ := norm_small k (by omega) h2
        have hz : k - 2 = 0 := by omega
        have E1 := Lib.hid e1
        have E2 := Lib.hid e2
        have E3 := Lib.hid e3
        have l1 := lowN_bd (k - 2)
        have l2 := brokenN_bd (k - 2)
        have HZ := Lib.hid hz
        clear e1 e2 e3 hz
        go_wp2_with fail
        refine (ends_any _ _ _ _ (by omega) (by omega) (by omega) (by omega) (by omega)).mono ?_
        rintro e w' ⟨rfl, q, rfl⟩
        rw [E2.out, E3.out]
        go_wp2_with (at_builtin; refine app1 _ _ rfl (.tmp 39) (.tmp 44) _ rfl elti w.heap.size A k cap _ rfl hown rfl rfl (by simp [Value.oneCell']) (by omega) hsz ?_; intro A' cap' w2 happ)
        go_round
        case rel =>
          have h21 : k + 1 - 2 = 0 := by omega
          exact ⟨k + 1, A', cap', by go_num, by omega, rfl, by rw [h21, HZ.out], by rw [h21, HZ.out], by rw [tab_succ, E1.out]; simpa using happ.own, (below_drewN hbel q).trans happ.below⟩
        case measure => simp [intOf]; omega
      · obtain ⟨e1, e2, e3, e4, e5⟩ := norm_big k (by omega) (by omega)
        obtain ⟨s1, s2⟩ := low_step k (by omega)
        have l1 := lowN_bd (k - 2)
        have l2 := brokenN_bd (k - 2)
        have hu := unit_bd' k (by omega)
        have E1 := Lib.hid e1
        obtain ⟨L, eL⟩ : ∃ L, lowN (k - 2) = L := ⟨_, rfl⟩
        obtain ⟨b, eb⟩ : ∃ b, brokenN (k - 2) = b := ⟨_, rfl⟩
        rw [eL] at l1 s1
        rw [eb] at l2
        simp only [eL, eb]
        have HS := Lib.hid s1
        clear e1
        by_cases hr : 0 < (1073741824 : Int) % ((k : Int) - 1)
        · have HB := Lib.hid (show brokenN (k - 1) = b + 1 by rw [s2, if_pos hr, eb])
          clear s1 s2 eL eb
          go_wp2_with fail
          refine (ends_any _ _ _ _ (by omega) (by omega) (by omega) (by omega) (by omega)).mono ?_
          rintro e w' ⟨rfl, q, rfl⟩
          rw [← HS.out, ← HB.out]
          go_wp2_with (at_builtin; refine app1 _ _ rfl (.tmp 39) (.tmp 44) _ rfl elti w.heap.size A k cap _ rfl hown rfl rfl (by simp [Value.oneCell']) (by omega) hsz ?_; intro A' cap' w2 happ)
          go_round
          case rel => exact ⟨k + 1, A', cap', by go_num, by omega, rfl, by rw [show k + 1 - 2 = k - 1 by omega, HS.out], by rw [show k + 1 - 2 = k - 1 by omega, HB.out], by rw [tab_succ, E1.out]; simpa using happ.own, (below_drewN hbel q).trans happ.below⟩
          case measure => simp [intOf]; omega
        · have HB := Lib.hid (show brokenN (k - 1) = b by rw [s2, if_neg hr, eb]; omega)
          clear s1 s2 eL eb
          go_wp2_with fail
          refine (ends_any _ _ _ _ (by omega) (by omega) (by omega) (by omega) (by omega)).mono ?_
          rintro e w' ⟨rfl, q, rfl⟩
          rw [← HS.out, ← HB.out]
          go_wp2_with (at_builtin; refine app1 _ _ rfl (.tmp 39) (.tmp 44) _ rfl elti w.heap.size A k cap _ rfl hown rfl rfl (by simp [Value.oneCell']) (by omega) hsz ?_; intro A' cap' w2 happ)
          go_round
          case rel => exact ⟨k + 1, A', cap', by go_num, by omega, rfl, by rw [show k + 1 - 2 = k - 1 by omega, HS.out], by rw [show k + 1 - 2 = k - 1 by omega, HB.out], by rw [tab_succ, E1.out]; simpa using happ.own, (below_drewN hbel q).trans happ.below⟩
          case measure => simp [intOf]; omega
    · go_wp2
      go_ret
      have : k = m + 1 := by omega
      subst this
      exact ⟨⟨_, rfl, by rw [HT.out]; exact Ints.of_own hown⟩, hbel⟩
end Go.Proofs.Ytkbojgjhhdbjgaa.HarmW
