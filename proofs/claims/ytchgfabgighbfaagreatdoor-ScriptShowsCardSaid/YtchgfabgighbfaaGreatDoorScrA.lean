/- Scripts: what is right, the pure parts: between, few, names, sched.Right. -/
import Derived.Test.YtchgfabgighbfaaGreatDoorRows
import Derived.Test.YtchgfabgighbfaaGreatDoorSeqM
import Derived.Test.YtchgfabgighbfaaGreatDoorScrP
import Derived.Deep.DeepMust
namespace Go.Proofs.YtchgfabgighbfaaGreatDoor.ScrA
set_option linter.unusedVariables false
open Go.RowKit Base SeqM ScrM

theorem between_any (n lo hi : Int) (w : World) : Calls Tryz.prog 22 #[.int .i64 n, .int .i64 lo, .int .i64 hi] w fun e w' => e = .returned (.bool (decide (lo ≤ n ∧ n ≤ hi))) ∧ w = w' := by
  by_cases h1 : lo ≤ n
  · have d1 : decide (n ≥ lo) = true := decide_eq_true h1
    by_cases h2 : n ≤ hi
    · have d2 : decide (n ≤ hi) = true := decide_eq_true h2
      rw [decide_eq_true (show lo ≤ n ∧ n ≤ hi from ⟨h1, h2⟩)]
      clear h1 h2
      go_enter Tryz.func22, Tryz.ntmps22
      go_wp2_with fail
      go_ret
      exact ⟨rfl, rfl⟩
    · have d2 : decide (n ≤ hi) = false := decide_eq_false h2
      rw [decide_eq_false (show ¬ (lo ≤ n ∧ n ≤ hi) from fun h => h2 h.2)]
      clear h1 h2
      go_enter Tryz.func22, Tryz.ntmps22
      go_wp2_with fail
      go_ret
      exact ⟨rfl, rfl⟩
  · have d1 : decide (n ≥ lo) = false := decide_eq_false h1
    rw [decide_eq_false (show ¬ (lo ≤ n ∧ n ≤ hi) from fun h => h1 h.1)]
    clear h1
    go_enter Tryz.func22, Tryz.ntmps22
    go_wp2_with fail
    go_ret
    exact ⟨rfl, rfl⟩
theorem few_any (n : Int) (w : World) : Calls Tryz.prog 45 #[.int .i64 n] w fun e w' => e = .returned (.bool (decide (0 ≤ n ∧ n ≤ 1099511627776))) ∧ w = w' := by
  by_cases h1 : 0 ≤ n
  · have d1 : decide (n ≥ 0) = true := decide_eq_true h1
    by_cases h2 : n ≤ 1099511627776
    · have d2 : decide (n ≤ 1099511627776) = true := decide_eq_true h2
      rw [decide_eq_true (show 0 ≤ n ∧ n ≤ 1099511627776 from ⟨h1, h2⟩)]
      clear h1 h2
      go_enter Tryz.func45, Tryz.ntmps45
      go_wp2_with fail
      go_ret
      exact ⟨rfl, rfl⟩
    · have d2 : decide (n ≤ 1099511627776) = false := decide_eq_false h2
      rw [decide_eq_false (show ¬ (0 ≤ n ∧ n ≤ 1099511627776) from fun h => h2 h.2)]
      clear h1 h2
      go_enter Tryz.func45, Tryz.ntmps45
      go_wp2_with fail
      go_ret
      exact ⟨rfl, rfl⟩
  · have d1 : decide (n ≥ 0) = false := decide_eq_false h1
    rw [decide_eq_false (show ¬ (0 ≤ n ∧ n ≤ 1099511627776) from fun h => h1 h.1)]
    clear h1
    go_enter Tryz.func45, Tryz.ntmps45
    go_wp2_with fail
    go_ret
    exact ⟨rfl, rfl⟩
/-- what a kind names, as bits; is there such a kind? -/
def namesV (k : Int) : Int × Bool :=
  if k = 1 then (3, true) else if k = 2 then (2, true) else if k = 7 then (2, true) else if k = 3 then (12, true) else if k = 4 then (4, true) else if k = 5 then (0, true) else if k = 6 then (0, true) else (0, false)
theorem names_any (k : Int) (w : World) : Calls Tryz.prog 44 #[.int .i64 k] w fun e w' => e = .returned (.tuple #[.int .i64 (namesV k).1, .bool (namesV k).2]) ∧ w = w' := by
  by_cases h : k = 1 ∨ k = 2 ∨ k = 7 ∨ k = 3 ∨ k = 4 ∨ k = 5 ∨ k = 6
  · rcases h with rfl | rfl | rfl | rfl | rfl | rfl | rfl
    all_goals
      go_enter Tryz.func44, Tryz.ntmps44
      go_wp2_with fail
      go_ret2
      exact ⟨rfl, rfl⟩
  · have h1 : (k == 1) = false := beq_eq_false_iff_ne.2 (fun e => h (by simp [e]))
    have h2 : (k == 2) = false := beq_eq_false_iff_ne.2 (fun e => h (by simp [e]))
    have h7 : (k == 7) = false := beq_eq_false_iff_ne.2 (fun e => h (by simp [e]))
    have h3 : (k == 3) = false := beq_eq_false_iff_ne.2 (fun e => h (by simp [e]))
    have h4 : (k == 4) = false := beq_eq_false_iff_ne.2 (fun e => h (by simp [e]))
    have h5 : (k == 5) = false := beq_eq_false_iff_ne.2 (fun e => h (by simp [e]))
    have h6 : (k == 6) = false := beq_eq_false_iff_ne.2 (fun e => h (by simp [e]))
    have F := Lib.hid (show namesV k = (0, false) by
      unfold namesV
      rw [if_neg (fun e => h (by simp [e])), if_neg (fun e => h (by simp [e])), if_neg (fun e => h (by simp [e])), if_neg (fun e => h (by simp [e])), if_neg (fun e => h (by simp [e])), if_neg (fun e => h (by simp [e])), if_neg (fun e => h (by simp [e]))])
    clear h
    go_enter Tryz.func44, Tryz.ntmps44
    go_wp2_with fail
    go_ret2
    exact ⟨by rw [F.out]; rfl, rfl⟩
/-- the rows that sched.Right looks at -/
def rowsC (c : Cf) : List (Int × Int × Int) := [(c.c0, 1, 8), (c.c1, 2, 256), (c.c2, 1, 16), (c.c3, 2, min 64 c.c1), (c.c4, 1, 256), (c.c5, 1, 2), (c.c7, 2, 1000), (c.c6, 1, max c.c7 1 - 1), (c.c8, 1, 64), (c.c9, 1, 64), (c.c10, 1, 256)]
def cfC (c : Cf) : List Value := [.int .i64 c.c0, .int .i64 c.c1, .int .i64 c.c2, .int .i64 c.c3, .int .i64 c.c4, .int .i64 c.c5, .int .i64 c.c6, .int .i64 c.c7, .int .i64 c.c8, .int .i64 c.c9, .int .i64 c.c10]
end Go.Proofs.YtchgfabgighbfaaGreatDoor.ScrA
