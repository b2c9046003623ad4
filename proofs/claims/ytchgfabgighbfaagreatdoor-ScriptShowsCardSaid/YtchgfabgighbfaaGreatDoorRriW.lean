/- The reference's tests of a way to work and of an ask: copseref20.in, Right; copseref22.names, RightAsk (printed by mkrri.py). -/
import Derived.Test.YtchgfabgighbfaaGreatDoorRgtW
namespace Go.Proofs.YtchgfabgighbfaaGreatDoor.RriW
set_option linter.unusedVariables false
set_option linter.unusedSimpArgs false
open Go.RowKit Base SeqM ScrM EqlW LinV RigW SchW RgtW

set_option maxHeartbeats 1000000 in
theorem in_any (n lo hi : Int) (w : World) : Calls Tryz.prog 47 #[.int .i64 n, .int .i64 lo, .int .i64 hi] w fun e w' => e = .returned (.bool (decide (lo ≤ n ∧ n ≤ hi))) ∧ w = w' := by
  by_cases h1 : lo ≤ n
  · by_cases h2 : n ≤ hi
    · rw [decide_eq_true ⟨h1, h2⟩]
      go_enter Tryz.func47, Tryz.ntmps47
      go_wp2_with fail
      go_ret
      exact ⟨rfl, rfl⟩
    · rw [decide_eq_false (fun h : lo ≤ n ∧ n ≤ hi => h2 h.2)]
      go_enter Tryz.func47, Tryz.ntmps47
      go_wp2_with fail
      go_ret
      exact ⟨rfl, rfl⟩
  · rw [decide_eq_false (fun h : lo ≤ n ∧ n ≤ hi => h1 h.1)]
    have d1 : decide (n ≥ lo) = false := decide_eq_false (by omega)
    go_enter Tryz.func47, Tryz.ntmps47
    go_wp2_with fail
    go_ret
    exact ⟨rfl, rfl⟩
set_option maxHeartbeats 4000000 in
set_option maxRecDepth 100000 in
theorem RConf_any (c0 c1 c2 c3 c4 c5 c6 c7 c8 c9 c10 : Int) (w : World) : Calls Tryz.prog 24 #[.agg #[.int .i64 c0, .int .i64 c1, .int .i64 c2, .int .i64 c3, .int .i64 c4, .int .i64 c5, .int .i64 c6, .int .i64 c7, .int .i64 c8, .int .i64 c9, .int .i64 c10]] w fun e w' => e = .returned (.bool (confB ⟨c0, c1, c2, c3, c4, c5, c6, c7, c8, c9, c10⟩)) ∧ Below w.heap.size w w' := by
  have HC := Lib.hid (show confOk ⟨c0, c1, c2, c3, c4, c5, c6, c7, c8, c9, c10⟩ ↔ (1 ≤ c0 ∧ c0 ≤ 8) ∧ (2 ≤ c1 ∧ c1 ≤ 256) ∧ (1 ≤ c2 ∧ c2 ≤ 16) ∧ (2 ≤ c3 ∧ c3 ≤ 64 ∧ c3 ≤ c1) ∧ (1 ≤ c4 ∧ c4 ≤ 256) ∧ (1 ≤ c5 ∧ c5 ≤ 2) ∧ (2 ≤ c7 ∧ c7 ≤ 1000) ∧ (1 ≤ c6 ∧ c6 ≤ c7 - 1) ∧ (1 ≤ c8 ∧ c8 ≤ 64) ∧ (1 ≤ c9 ∧ c9 ≤ 64) ∧ (1 ≤ c10 ∧ c10 ≤ 256) from Iff.rfl)
  go_enter Tryz.func24, Tryz.ntmps24
  go_wp2_with fail
  refine (in_any c0 1 8 _).mono ?_
  rintro e w1 ⟨rfl, rfl⟩
  by_cases h0 : 1 ≤ c0 ∧ c0 ≤ 8
  rotate_left
  · rw [decide_eq_false h0]
    have F := Lib.hid (conf_no (c := ⟨c0, c1, c2, c3, c4, c5, c6, c7, c8, c9, c10⟩) (fun h => h0 (by have := HC.out.1 h; omega)))
    clear h0
    go_wp2_with fail
    go_ret
    exact ⟨by rw [F.out]; rfl, below_a1 _ _⟩
  rw [decide_eq_true h0]
  have H0 := Lib.hid h0
  clear h0
  go_wp2_with fail
  refine (in_any c1 2 256 _).mono ?_
  rintro e w1 ⟨rfl, rfl⟩
  by_cases h1 : 2 ≤ c1 ∧ c1 ≤ 256
  rotate_left
  · rw [decide_eq_false h1]
    have F := Lib.hid (conf_no (c := ⟨c0, c1, c2, c3, c4, c5, c6, c7, c8, c9, c10⟩) (fun h => h1 (by have := HC.out.1 h; omega)))
    clear h1
    go_wp2_with fail
    go_ret
    exact ⟨by rw [F.out]; rfl, below_a1 _ _⟩
  rw [decide_eq_true h1]
  have H1 := Lib.hid h1
  clear h1
  go_wp2_with fail
  refine (in_any c2 1 16 _).mono ?_
  rintro e w1 ⟨rfl, rfl⟩
  by_cases h2 : 1 ≤ c2 ∧ c2 ≤ 16
  rotate_left
  · rw [decide_eq_false h2]
    have F := Lib.hid (conf_no (c := ⟨c0, c1, c2, c3, c4, c5, c6, c7, c8, c9, c10⟩) (fun h => h2 (by have := HC.out.1 h; omega)))
    clear h2
    go_wp2_with fail
    go_ret
    exact ⟨by rw [F.out]; rfl, below_a1 _ _⟩
  rw [decide_eq_true h2]
  have H2 := Lib.hid h2
  clear h2
  go_wp2_with fail
  refine (in_any c3 2 64 _).mono ?_
  rintro e w1 ⟨rfl, rfl⟩
  by_cases h3 : 2 ≤ c3 ∧ c3 ≤ 64
  rotate_left
  · rw [decide_eq_false h3]
    have F := Lib.hid (conf_no (c := ⟨c0, c1, c2, c3, c4, c5, c6, c7, c8, c9, c10⟩) (fun h => h3 (by have := HC.out.1 h; omega)))
    clear h3
    go_wp2_with fail
    go_ret
    exact ⟨by rw [F.out]; rfl, below_a1 _ _⟩
  rw [decide_eq_true h3]
  have H3 := Lib.hid h3
  clear h3
  by_cases h4 : c3 ≤ c1
  rotate_left
  · have F := Lib.hid (conf_no (c := ⟨c0, c1, c2, c3, c4, c5, c6, c7, c8, c9, c10⟩) (fun h => h4 (by have := HC.out.1 h; omega)))
    have q4 : decide (c3 > c1) = true := decide_eq_true (by omega)
    clear h4
    go_wp2_with fail
    go_ret
    exact ⟨by rw [F.out]; rfl, below_a1 _ _⟩
  have q4 : decide (c3 > c1) = false := decide_eq_false (by omega)
  have H4 := Lib.hid h4
  clear h4
  go_wp2_with fail
  refine (in_any c4 1 256 _).mono ?_
  rintro e w1 ⟨rfl, rfl⟩
  by_cases h5 : 1 ≤ c4 ∧ c4 ≤ 256
  rotate_left
  · rw [decide_eq_false h5]
    have F := Lib.hid (conf_no (c := ⟨c0, c1, c2, c3, c4, c5, c6, c7, c8, c9, c10⟩) (fun h => h5 (by have := HC.out.1 h; omega)))
    clear h5
    go_wp2_with fail
    go_ret
    exact ⟨by rw [F.out]; rfl, below_a1 _ _⟩
  rw [decide_eq_true h5]
  have H5 := Lib.hid h5
  clear h5
  go_wp2_with fail
  refine (in_any c5 1 2 _).mono ?_
  rintro e w1 ⟨rfl, rfl⟩
  by_cases h6 : 1 ≤ c5 ∧ c5 ≤ 2
  rotate_left
  · rw [decide_eq_false h6]
    have F := Lib.hid (conf_no (c := ⟨c0, c1, c2, c3, c4, c5, c6, c7, c8, c9, c10⟩) (fun h => h6 (by have := HC.out.1 h; omega)))
    clear h6
    go_wp2_with fail
    go_ret
    exact ⟨by rw [F.out]; rfl, below_a1 _ _⟩
  rw [decide_eq_true h6]
  have H6 := Lib.hid h6
  clear h6
  go_wp2_with fail
  refine (in_any c7 2 1000 _).mono ?_
  rintro e w1 ⟨rfl, rfl⟩
  by_cases h7 : 2 ≤ c7 ∧ c7 ≤ 1000
  rotate_left
  · rw [decide_eq_false h7]
    have F := Lib.hid (conf_no (c := ⟨c0, c1, c2, c3, c4, c5, c6, c7, c8, c9, c10⟩) (fun h => h7 (by have := HC.out.1 h; omega)))
    clear h7
    go_wp2_with fail
    go_ret
    exact ⟨by rw [F.out]; rfl, below_a1 _ _⟩
  rw [decide_eq_true h7]
  have H7 := Lib.hid h7
  go_wp2_with fail
  refine (in_any c6 1 (c7 - 1) _).mono ?_
  rintro e w1 ⟨rfl, rfl⟩
  by_cases h8 : 1 ≤ c6 ∧ c6 ≤ (c7 - 1)
  rotate_left
  · rw [decide_eq_false h8]
    have F := Lib.hid (conf_no (c := ⟨c0, c1, c2, c3, c4, c5, c6, c7, c8, c9, c10⟩) (fun h => h8 (by have := HC.out.1 h; omega)))
    clear h8
    go_wp2_with fail
    go_ret
    exact ⟨by rw [F.out]; rfl, below_a1 _ _⟩
  rw [decide_eq_true h8]
  have H8 := Lib.hid h8
  clear h8
  go_wp2_with fail
  refine (in_any c8 1 64 _).mono ?_
  rintro e w1 ⟨rfl, rfl⟩
  by_cases h9 : 1 ≤ c8 ∧ c8 ≤ 64
  rotate_left
  · rw [decide_eq_false h9]
    have F := Lib.hid (conf_no (c := ⟨c0, c1, c2, c3, c4, c5, c6, c7, c8, c9, c10⟩) (fun h => h9 (by have := HC.out.1 h; omega)))
    clear h9
    go_wp2_with fail
    go_ret
    exact ⟨by rw [F.out]; rfl, below_a1 _ _⟩
  rw [decide_eq_true h9]
  have H9 := Lib.hid h9
  clear h9
  go_wp2_with fail
  refine (in_any c9 1 64 _).mono ?_
  rintro e w1 ⟨rfl, rfl⟩
  by_cases h10 : 1 ≤ c9 ∧ c9 ≤ 64
  rotate_left
  · rw [decide_eq_false h10]
    have F := Lib.hid (conf_no (c := ⟨c0, c1, c2, c3, c4, c5, c6, c7, c8, c9, c10⟩) (fun h => h10 (by have := HC.out.1 h; omega)))
    clear h10
    go_wp2_with fail
    go_ret
    exact ⟨by rw [F.out]; rfl, below_a1 _ _⟩
  rw [decide_eq_true h10]
  have H10 := Lib.hid h10
  clear h10
  go_wp2_with fail
  refine (in_any c10 1 256 _).mono ?_
  rintro e w1 ⟨rfl, rfl⟩
  by_cases h11 : 1 ≤ c10 ∧ c10 ≤ 256
  rotate_left
  · rw [decide_eq_false h11]
    have F := Lib.hid (conf_no (c := ⟨c0, c1, c2, c3, c4, c5, c6, c7, c8, c9, c10⟩) (fun h => h11 (by have := HC.out.1 h; omega)))
    clear h11
    go_wp2_with fail
    go_ret
    exact ⟨by rw [F.out]; rfl, below_a1 _ _⟩
  rw [decide_eq_true h11]
  have H11 := Lib.hid h11
  have F := Lib.hid (conf_yes (c := ⟨c0, c1, c2, c3, c4, c5, c6, c7, c8, c9, c10⟩) (HC.out.2 (by have z0 := H0.out; have z1 := H1.out; have z2 := H2.out; have z3 := H3.out; have z4 := H4.out; have z5 := H5.out; have z6 := H6.out; have z7 := H7.out; have z8 := H8.out; have z9 := H9.out; have z10 := H10.out; omega)))
  clear h11
  go_wp2_with fail
  go_ret
  exact ⟨by rw [F.out]; rfl, below_a1 _ _⟩
theorem results_tmp4 {fn : Func} {t u v x : Tmp} (h : fn.results = #[.tmp t, .tmp u, .tmp v, .tmp x]) (tmps : Array Value) (P : Program) (w : World) :
    (results fn tmps).run P w = .ok (.tuple #[tmps.getD t undef, tmps.getD u undef, tmps.getD v undef, tmps.getD x undef]) w := by
  simp [results, h]
theorem names_1 (w : World) : Calls Tryz.prog 48 #[.int .i64 1] w fun e w' => e = .returned (.tuple #[.bool true, .bool true, .bool false, .bool false]) ∧ w = w' := by
  go_enter Tryz.func48, Tryz.ntmps48
  go_wp2_with fail
  refine bodyPost_ret (results_tmp4 rfl _ _ _) rfl ?_
  exact ⟨rfl, rfl⟩
theorem names_2 (w : World) : Calls Tryz.prog 48 #[.int .i64 2] w fun e w' => e = .returned (.tuple #[.bool false, .bool true, .bool false, .bool false]) ∧ w = w' := by
  go_enter Tryz.func48, Tryz.ntmps48
  go_wp2_with fail
  refine bodyPost_ret (results_tmp4 rfl _ _ _) rfl ?_
  exact ⟨rfl, rfl⟩
theorem names_3 (w : World) : Calls Tryz.prog 48 #[.int .i64 3] w fun e w' => e = .returned (.tuple #[.bool false, .bool false, .bool true, .bool true]) ∧ w = w' := by
  go_enter Tryz.func48, Tryz.ntmps48
  go_wp2_with fail
  refine bodyPost_ret (results_tmp4 rfl _ _ _) rfl ?_
  exact ⟨rfl, rfl⟩
theorem names_4 (w : World) : Calls Tryz.prog 48 #[.int .i64 4] w fun e w' => e = .returned (.tuple #[.bool false, .bool false, .bool true, .bool false]) ∧ w = w' := by
  go_enter Tryz.func48, Tryz.ntmps48
  go_wp2_with fail
  refine bodyPost_ret (results_tmp4 rfl _ _ _) rfl ?_
  exact ⟨rfl, rfl⟩
theorem names_5 (w : World) : Calls Tryz.prog 48 #[.int .i64 5] w fun e w' => e = .returned (.tuple #[.bool false, .bool false, .bool false, .bool false]) ∧ w = w' := by
  go_enter Tryz.func48, Tryz.ntmps48
  go_wp2_with fail
  refine bodyPost_ret (results_tmp4 rfl _ _ _) rfl ?_
  exact ⟨rfl, rfl⟩
theorem names_6 (w : World) : Calls Tryz.prog 48 #[.int .i64 6] w fun e w' => e = .returned (.tuple #[.bool false, .bool false, .bool false, .bool false]) ∧ w = w' := by
  go_enter Tryz.func48, Tryz.ntmps48
  go_wp2_with fail
  refine bodyPost_ret (results_tmp4 rfl _ _ _) rfl ?_
  exact ⟨rfl, rfl⟩
theorem names_7 (w : World) : Calls Tryz.prog 48 #[.int .i64 7] w fun e w' => e = .returned (.tuple #[.bool false, .bool true, .bool false, .bool false]) ∧ w = w' := by
  go_enter Tryz.func48, Tryz.ntmps48
  go_wp2_with fail
  refine bodyPost_ret (results_tmp4 rfl _ _ _) rfl ?_
  exact ⟨rfl, rfl⟩
def RaRel (xs : List Int) (W : World) (t3 : Value) (wr : World) : Prop := ∃ q : Nat, q ≤ xs.length ∧ t3 = .int .i64 q ∧ (∀ x ∈ xs.take q, -2147483648 ≤ x ∧ x ≤ 2147483647) ∧ W = wr
set_option maxHeartbeats 8000000 in
set_option maxRecDepth 100000 in
theorem RRightAsk_any (xv : Value) (k i : Int) (xs : List Int) (n m : Int) (w : World) (h : Seq 1 inC w 0 w.heap.size xv xs) :
    Calls Tryz.prog 25 #[.agg #[.int .i64 k, .int .i64 i, xv, .int .i64 n, .int .i64 m]] w fun e w' => e = .returned (.bool (askB ⟨k, i, xs, n, m⟩)) ∧ Below w.heap.size w w' := by
  obtain ⟨A, ca, rfl, hc1, hc2, hr, _⟩ := h
  obtain ⟨l, hl⟩ : ∃ l, xs.length = l := ⟨_, rfl⟩
  have HL := Lib.hid hl
  have HR := Lib.hid hr
  have HC := Lib.hid (show askOk ⟨k, i, xs, n, m⟩ ↔ (1 ≤ k ∧ k ≤ 7) ∧ xs.length ≤ 8 ∧ (0 ≤ i ∧ i ≤ 1099511627776) ∧ (0 ≤ n ∧ n ≤ 1099511627776) ∧ (0 ≤ m ∧ m ≤ 1099511627776) ∧ (∀ x ∈ xs, -2147483648 ≤ x ∧ x ≤ 2147483647) ∧ (k = 1 ∨ i = 0) ∧ (k = 1 ∨ k = 2 ∨ k = 7 ∨ xs = []) ∧ (k = 3 ∨ k = 4 ∨ n = 0) ∧ (k = 3 ∨ m = 0) from Iff.rfl)
  rw [hl] at hc1 HC ⊢
  unfold maxLen at hc2
  clear hr hl
  by_cases g0 : 1 ≤ k
  rotate_left
  · have F := Lib.hid (askB_no (a := ⟨k, i, xs, n, m⟩) (fun h => g0 (HC.out.1 h).1.1))
    have d0 : decide (k < 1) = true := decide_eq_true (by omega)
    clear g0
    go_enter Tryz.func25, Tryz.ntmps25
    go_wp2_with fail
    go_ret
    exact ⟨by rw [F.out]; rfl, below_a1 _ _⟩
  have d0 : decide (k < 1) = false := decide_eq_false (by omega)
  by_cases g1 : k ≤ 7
  rotate_left
  · have F := Lib.hid (askB_no (a := ⟨k, i, xs, n, m⟩) (fun h => g1 (HC.out.1 h).1.2))
    have d1 : decide (k > 7) = true := decide_eq_true (by omega)
    clear g1
    go_enter Tryz.func25, Tryz.ntmps25
    go_wp2_with fail
    go_ret
    exact ⟨by rw [F.out]; rfl, below_a1 _ _⟩
  have d1 : decide (k > 7) = false := decide_eq_false (by omega)
  by_cases g2 : l ≤ 8
  rotate_left
  · have F := Lib.hid (askB_no (a := ⟨k, i, xs, n, m⟩) (fun h => g2 (HC.out.1 h).2.1))
    have d2 : decide ((l : Int) > 8) = true := decide_eq_true (by omega)
    clear g2
    go_enter Tryz.func25, Tryz.ntmps25
    go_wp2_with fail
    go_ret
    exact ⟨by rw [F.out]; rfl, below_a1 _ _⟩
  have d2 : decide ((l : Int) > 8) = false := decide_eq_false (by omega)
  by_cases g3 : 0 ≤ i
  rotate_left
  · have F := Lib.hid (askB_no (a := ⟨k, i, xs, n, m⟩) (fun h => g3 (HC.out.1 h).2.2.1.1))
    have d3 : decide (i < 0) = true := decide_eq_true (by omega)
    clear g3
    go_enter Tryz.func25, Tryz.ntmps25
    go_wp2_with fail
    go_ret
    exact ⟨by rw [F.out]; rfl, below_a1 _ _⟩
  have d3 : decide (i < 0) = false := decide_eq_false (by omega)
  by_cases g4 : i ≤ 1099511627776
  rotate_left
  · have F := Lib.hid (askB_no (a := ⟨k, i, xs, n, m⟩) (fun h => g4 (HC.out.1 h).2.2.1.2))
    have d4 : decide (i > 1099511627776) = true := decide_eq_true (by omega)
    clear g4
    go_enter Tryz.func25, Tryz.ntmps25
    go_wp2_with fail
    go_ret
    exact ⟨by rw [F.out]; rfl, below_a1 _ _⟩
  have d4 : decide (i > 1099511627776) = false := decide_eq_false (by omega)
  by_cases g5 : 0 ≤ n
  rotate_left
  · have F := Lib.hid (askB_no (a := ⟨k, i, xs, n, m⟩) (fun h => g5 (HC.out.1 h).2.2.2.1.1))
    have d5 : decide (n < 0) = true := decide_eq_true (by omega)
    clear g5
    go_enter Tryz.func25, Tryz.ntmps25
    go_wp2_with fail
    go_ret
    exact ⟨by rw [F.out]; rfl, below_a1 _ _⟩
  have d5 : decide (n < 0) = false := decide_eq_false (by omega)
  by_cases g6 : n ≤ 1099511627776
  rotate_left
  · have F := Lib.hid (askB_no (a := ⟨k, i, xs, n, m⟩) (fun h => g6 (HC.out.1 h).2.2.2.1.2))
    have d6 : decide (n > 1099511627776) = true := decide_eq_true (by omega)
    clear g6
    go_enter Tryz.func25, Tryz.ntmps25
    go_wp2_with fail
    go_ret
    exact ⟨by rw [F.out]; rfl, below_a1 _ _⟩
  have d6 : decide (n > 1099511627776) = false := decide_eq_false (by omega)
  by_cases g7 : 0 ≤ m
  rotate_left
  · have F := Lib.hid (askB_no (a := ⟨k, i, xs, n, m⟩) (fun h => g7 (HC.out.1 h).2.2.2.2.1.1))
    have d7 : decide (m < 0) = true := decide_eq_true (by omega)
    clear g7
    go_enter Tryz.func25, Tryz.ntmps25
    go_wp2_with fail
    go_ret
    exact ⟨by rw [F.out]; rfl, below_a1 _ _⟩
  have d7 : decide (m < 0) = false := decide_eq_false (by omega)
  by_cases g8 : m ≤ 1099511627776
  rotate_left
  · have F := Lib.hid (askB_no (a := ⟨k, i, xs, n, m⟩) (fun h => g8 (HC.out.1 h).2.2.2.2.1.2))
    have d8 : decide (m > 1099511627776) = true := decide_eq_true (by omega)
    clear g8
    go_enter Tryz.func25, Tryz.ntmps25
    go_wp2_with fail
    go_ret
    exact ⟨by rw [F.out]; rfl, below_a1 _ _⟩
  have d8 : decide (m > 1099511627776) = false := decide_eq_false (by omega)
  have HG := Lib.hid (show (1 ≤ k ∧ k ≤ 7) ∧ l ≤ 8 ∧ (0 ≤ i ∧ i ≤ 1099511627776) ∧ (0 ≤ n ∧ n ≤ 1099511627776) ∧ (0 ≤ m ∧ m ≤ 1099511627776) from ⟨⟨g0, g1⟩, g2, ⟨g3, g4⟩, ⟨g5, g6⟩, g7, g8⟩)
  clear g0 g1 g3 g4 g5 g6 g7 g8
  have H0 := Lib.hid (show RaRel xs (w.alloc (.cells #[.int .i64 k, .int .i64 i, .slice A l ca, .int .i64 n, .int .i64 m] 27)) (.int .i64 0) (w.alloc (.cells #[.int .i64 k, .int .i64 i, .slice A l ca, .int .i64 n, .int .i64 m] 27)) from ⟨0, Nat.zero_le _, rfl, by simp, rfl⟩)
  go_enter Tryz.func25, Tryz.ntmps25
  go_wp2_with fail
  clear d0 d1 d2 d3 d4 d5 d6 d7 d8
  go_loopw [3] (fun t3 wr => RaRel xs (w.alloc (.cells #[.int .i64 k, .int .i64 i, .slice A l ca, .int .i64 n, .int .i64 m] 27)) t3 wr) (fun t3 _ => l - (RowKit.intOf t3).toNat)
  case atStart => exact H0.out
  case round =>
    obtain ⟨q, hq, rfl, hal, rfl⟩ := hrel
    rw [HL.out] at hq
    have HA := Lib.hid hal
    clear hal H0
    by_cases hlt : q < l
    · obtain ⟨ad, x, e2, _, hb, hx, hcell⟩ := rdI HR.out (i := q) (by rw [HL.out]; exact hlt)
      cases e2
      have hb2 : (ad.add q).block < w.heap.size := by rw [Base.add_block]; exact hb
      have HX := Lib.hid hx
      clear hx
      by_cases hx1 : -2147483648 ≤ x
      · have q1 : decide (x < -2147483648) = false := decide_eq_false (by omega)
        by_cases hx2 : x ≤ 2147483647
        · have q2 : decide (x > 2147483647) = false := decide_eq_false (by omega)
          have HF := Lib.hid (show ∀ y ∈ xs.take (q + 1), -2147483648 ≤ y ∧ y ≤ 2147483647 from fun y hy => by rw [SeqM.take_next HX.out] at hy; rcases List.mem_append.1 hy with hy | hy; exact HA.out y hy; rw [List.mem_singleton.1 hy]; exact ⟨hx1, hx2⟩)
          clear hx1 hx2
          go_wp2_with fail
          exact ⟨⟨q + 1, by rw [HL.out]; omega, by go_num, HF.out, rfl⟩, by simp [RowKit.intOf]; omega⟩
        · have q2 : decide (x > 2147483647) = true := decide_eq_true (by omega)
          have F := Lib.hid (askB_no (a := ⟨k, i, xs, n, m⟩) (fun h => hx2 ((HC.out.1 h).2.2.2.2.2.1 x (List.mem_of_getElem? HX.out)).2))
          clear hx2
          go_wp2_with fail
          go_ret
          exact ⟨by rw [F.out]; rfl, below_a1 _ _⟩
      · have q1 : decide (x < -2147483648) = true := decide_eq_true (by omega)
        have F := Lib.hid (askB_no (a := ⟨k, i, xs, n, m⟩) (fun h => hx1 ((HC.out.1 h).2.2.2.2.2.1 x (List.mem_of_getElem? HX.out)).1))
        clear hx1
        go_wp2_with fail
        go_ret
        exact ⟨by rw [F.out]; rfl, below_a1 _ _⟩
    · have HAA := Lib.hid (show ∀ y ∈ xs, -2147483648 ≤ y ∧ y ≤ 2147483647 by have h9 := HA.out; rwa [List.take_of_length_le (by rw [HL.out]; omega)] at h9)
      have hk := (show k = 1 ∨ k = 2 ∨ k = 3 ∨ k = 4 ∨ k = 5 ∨ k = 6 ∨ k = 7 by have := HG.out.1; omega)
      go_wp2_with fail
      rcases hk with rfl | rfl | rfl | rfl | rfl | rfl | rfl
      · refine (names_1 _).mono ?_
        rintro e w1 ⟨rfl, rfl⟩
        by_cases hzn : n = 0
        rotate_left
        · have F := Lib.hid (askB_no (a := ⟨1, i, xs, n, m⟩) (fun h => hzn (by have h9 := (HC.out.1 h).2.2.2.2.2.2.2.2.1; omega)))
          have q : (n == 0) = false := beq_eq_false_iff_ne.2 hzn
          clear hzn
          go_wp2_with fail
          go_ret
          exact ⟨by rw [F.out]; rfl, below_a1 _ _⟩
        have HZn := Lib.hid hzn
        have qn : (n == 0) = true := beq_iff_eq.2 hzn
        clear hzn
        by_cases hzm : m = 0
        rotate_left
        · have F := Lib.hid (askB_no (a := ⟨1, i, xs, n, m⟩) (fun h => hzm (by have h9 := (HC.out.1 h).2.2.2.2.2.2.2.2.2; omega)))
          have q : (m == 0) = false := beq_eq_false_iff_ne.2 hzm
          clear hzm
          go_wp2_with fail
          go_ret
          exact ⟨by rw [F.out]; rfl, below_a1 _ _⟩
        have HZm := Lib.hid hzm
        have qm : (m == 0) = true := beq_iff_eq.2 hzm
        clear hzm
        have F := Lib.hid (askB_yes (a := ⟨1, i, xs, n, m⟩) (HC.out.2 ⟨HG.out.1, HG.out.2.1, HG.out.2.2.1, HG.out.2.2.2.1, HG.out.2.2.2.2, HAA.out, .inl rfl, .inl rfl, .inr (.inr HZn.out), .inr HZm.out⟩))
        go_wp2_with fail
        go_ret
        exact ⟨by rw [F.out]; rfl, below_a1 _ _⟩
      · refine (names_2 _).mono ?_
        rintro e w1 ⟨rfl, rfl⟩
        by_cases hzi : i = 0
        rotate_left
        · have F := Lib.hid (askB_no (a := ⟨2, i, xs, n, m⟩) (fun h => hzi (by have h9 := (HC.out.1 h).2.2.2.2.2.2.1; omega)))
          have q : (i == 0) = false := beq_eq_false_iff_ne.2 hzi
          clear hzi
          go_wp2_with fail
          go_ret
          exact ⟨by rw [F.out]; rfl, below_a1 _ _⟩
        have HZi := Lib.hid hzi
        have qi : (i == 0) = true := beq_iff_eq.2 hzi
        clear hzi
        by_cases hzn : n = 0
        rotate_left
        · have F := Lib.hid (askB_no (a := ⟨2, i, xs, n, m⟩) (fun h => hzn (by have h9 := (HC.out.1 h).2.2.2.2.2.2.2.2.1; omega)))
          have q : (n == 0) = false := beq_eq_false_iff_ne.2 hzn
          clear hzn
          go_wp2_with fail
          go_ret
          exact ⟨by rw [F.out]; rfl, below_a1 _ _⟩
        have HZn := Lib.hid hzn
        have qn : (n == 0) = true := beq_iff_eq.2 hzn
        clear hzn
        by_cases hzm : m = 0
        rotate_left
        · have F := Lib.hid (askB_no (a := ⟨2, i, xs, n, m⟩) (fun h => hzm (by have h9 := (HC.out.1 h).2.2.2.2.2.2.2.2.2; omega)))
          have q : (m == 0) = false := beq_eq_false_iff_ne.2 hzm
          clear hzm
          go_wp2_with fail
          go_ret
          exact ⟨by rw [F.out]; rfl, below_a1 _ _⟩
        have HZm := Lib.hid hzm
        have qm : (m == 0) = true := beq_iff_eq.2 hzm
        clear hzm
        have F := Lib.hid (askB_yes (a := ⟨2, i, xs, n, m⟩) (HC.out.2 ⟨HG.out.1, HG.out.2.1, HG.out.2.2.1, HG.out.2.2.2.1, HG.out.2.2.2.2, HAA.out, .inr HZi.out, .inr (.inl rfl), .inr (.inr HZn.out), .inr HZm.out⟩))
        go_wp2_with fail
        go_ret
        exact ⟨by rw [F.out]; rfl, below_a1 _ _⟩
      · refine (names_3 _).mono ?_
        rintro e w1 ⟨rfl, rfl⟩
        by_cases hzi : i = 0
        rotate_left
        · have F := Lib.hid (askB_no (a := ⟨3, i, xs, n, m⟩) (fun h => hzi (by have h9 := (HC.out.1 h).2.2.2.2.2.2.1; omega)))
          have q : (i == 0) = false := beq_eq_false_iff_ne.2 hzi
          clear hzi
          go_wp2_with fail
          go_ret
          exact ⟨by rw [F.out]; rfl, below_a1 _ _⟩
        have HZi := Lib.hid hzi
        have qi : (i == 0) = true := beq_iff_eq.2 hzi
        clear hzi
        by_cases hzx : l = 0
        rotate_left
        · have F := Lib.hid (askB_no (a := ⟨3, i, xs, n, m⟩) (fun h => by have h9 := (HC.out.1 h).2.2.2.2.2.2.2.1; have : xs = [] := (by rcases h9 with h9 | h9 | h9 | h9 <;> first | exact h9 | (exfalso; omega)); have h8 := HL.out; rw [this] at h8; exact hzx h8.symm))
          have q : ((l : Int) == 0) = false := beq_eq_false_iff_ne.2 (by omega)
          clear hzx
          go_wp2_with fail
          go_ret
          exact ⟨by rw [F.out]; rfl, below_a1 _ _⟩
        have HZX := Lib.hid (show xs = [] from List.eq_nil_of_length_eq_zero (by rw [HL.out]; exact hzx))
        have qx : ((l : Int) == 0) = true := beq_iff_eq.2 (by omega)
        clear hzx
        have F := Lib.hid (askB_yes (a := ⟨3, i, xs, n, m⟩) (HC.out.2 ⟨HG.out.1, HG.out.2.1, HG.out.2.2.1, HG.out.2.2.2.1, HG.out.2.2.2.2, HAA.out, .inr HZi.out, .inr (.inr (.inr HZX.out)), .inl rfl, .inl rfl⟩))
        go_wp2_with fail
        go_ret
        exact ⟨by rw [F.out]; rfl, below_a1 _ _⟩
      · refine (names_4 _).mono ?_
        rintro e w1 ⟨rfl, rfl⟩
        by_cases hzi : i = 0
        rotate_left
        · have F := Lib.hid (askB_no (a := ⟨4, i, xs, n, m⟩) (fun h => hzi (by have h9 := (HC.out.1 h).2.2.2.2.2.2.1; omega)))
          have q : (i == 0) = false := beq_eq_false_iff_ne.2 hzi
          clear hzi
          go_wp2_with fail
          go_ret
          exact ⟨by rw [F.out]; rfl, below_a1 _ _⟩
        have HZi := Lib.hid hzi
        have qi : (i == 0) = true := beq_iff_eq.2 hzi
        clear hzi
        by_cases hzx : l = 0
        rotate_left
        · have F := Lib.hid (askB_no (a := ⟨4, i, xs, n, m⟩) (fun h => by have h9 := (HC.out.1 h).2.2.2.2.2.2.2.1; have : xs = [] := (by rcases h9 with h9 | h9 | h9 | h9 <;> first | exact h9 | (exfalso; omega)); have h8 := HL.out; rw [this] at h8; exact hzx h8.symm))
          have q : ((l : Int) == 0) = false := beq_eq_false_iff_ne.2 (by omega)
          clear hzx
          go_wp2_with fail
          go_ret
          exact ⟨by rw [F.out]; rfl, below_a1 _ _⟩
        have HZX := Lib.hid (show xs = [] from List.eq_nil_of_length_eq_zero (by rw [HL.out]; exact hzx))
        have qx : ((l : Int) == 0) = true := beq_iff_eq.2 (by omega)
        clear hzx
        by_cases hzm : m = 0
        rotate_left
        · have F := Lib.hid (askB_no (a := ⟨4, i, xs, n, m⟩) (fun h => hzm (by have h9 := (HC.out.1 h).2.2.2.2.2.2.2.2.2; omega)))
          have q : (m == 0) = false := beq_eq_false_iff_ne.2 hzm
          clear hzm
          go_wp2_with fail
          go_ret
          exact ⟨by rw [F.out]; rfl, below_a1 _ _⟩
        have HZm := Lib.hid hzm
        have qm : (m == 0) = true := beq_iff_eq.2 hzm
        clear hzm
        have F := Lib.hid (askB_yes (a := ⟨4, i, xs, n, m⟩) (HC.out.2 ⟨HG.out.1, HG.out.2.1, HG.out.2.2.1, HG.out.2.2.2.1, HG.out.2.2.2.2, HAA.out, .inr HZi.out, .inr (.inr (.inr HZX.out)), .inr (.inl rfl), .inr HZm.out⟩))
        go_wp2_with fail
        go_ret
        exact ⟨by rw [F.out]; rfl, below_a1 _ _⟩
      · refine (names_5 _).mono ?_
        rintro e w1 ⟨rfl, rfl⟩
        by_cases hzi : i = 0
        rotate_left
        · have F := Lib.hid (askB_no (a := ⟨5, i, xs, n, m⟩) (fun h => hzi (by have h9 := (HC.out.1 h).2.2.2.2.2.2.1; omega)))
          have q : (i == 0) = false := beq_eq_false_iff_ne.2 hzi
          clear hzi
          go_wp2_with fail
          go_ret
          exact ⟨by rw [F.out]; rfl, below_a1 _ _⟩
        have HZi := Lib.hid hzi
        have qi : (i == 0) = true := beq_iff_eq.2 hzi
        clear hzi
        by_cases hzx : l = 0
        rotate_left
        · have F := Lib.hid (askB_no (a := ⟨5, i, xs, n, m⟩) (fun h => by have h9 := (HC.out.1 h).2.2.2.2.2.2.2.1; have : xs = [] := (by rcases h9 with h9 | h9 | h9 | h9 <;> first | exact h9 | (exfalso; omega)); have h8 := HL.out; rw [this] at h8; exact hzx h8.symm))
          have q : ((l : Int) == 0) = false := beq_eq_false_iff_ne.2 (by omega)
          clear hzx
          go_wp2_with fail
          go_ret
          exact ⟨by rw [F.out]; rfl, below_a1 _ _⟩
        have HZX := Lib.hid (show xs = [] from List.eq_nil_of_length_eq_zero (by rw [HL.out]; exact hzx))
        have qx : ((l : Int) == 0) = true := beq_iff_eq.2 (by omega)
        clear hzx
        by_cases hzn : n = 0
        rotate_left
        · have F := Lib.hid (askB_no (a := ⟨5, i, xs, n, m⟩) (fun h => hzn (by have h9 := (HC.out.1 h).2.2.2.2.2.2.2.2.1; omega)))
          have q : (n == 0) = false := beq_eq_false_iff_ne.2 hzn
          clear hzn
          go_wp2_with fail
          go_ret
          exact ⟨by rw [F.out]; rfl, below_a1 _ _⟩
        have HZn := Lib.hid hzn
        have qn : (n == 0) = true := beq_iff_eq.2 hzn
        clear hzn
        by_cases hzm : m = 0
        rotate_left
        · have F := Lib.hid (askB_no (a := ⟨5, i, xs, n, m⟩) (fun h => hzm (by have h9 := (HC.out.1 h).2.2.2.2.2.2.2.2.2; omega)))
          have q : (m == 0) = false := beq_eq_false_iff_ne.2 hzm
          clear hzm
          go_wp2_with fail
          go_ret
          exact ⟨by rw [F.out]; rfl, below_a1 _ _⟩
        have HZm := Lib.hid hzm
        have qm : (m == 0) = true := beq_iff_eq.2 hzm
        clear hzm
        have F := Lib.hid (askB_yes (a := ⟨5, i, xs, n, m⟩) (HC.out.2 ⟨HG.out.1, HG.out.2.1, HG.out.2.2.1, HG.out.2.2.2.1, HG.out.2.2.2.2, HAA.out, .inr HZi.out, .inr (.inr (.inr HZX.out)), .inr (.inr HZn.out), .inr HZm.out⟩))
        go_wp2_with fail
        go_ret
        exact ⟨by rw [F.out]; rfl, below_a1 _ _⟩
      · refine (names_6 _).mono ?_
        rintro e w1 ⟨rfl, rfl⟩
        by_cases hzi : i = 0
        rotate_left
        · have F := Lib.hid (askB_no (a := ⟨6, i, xs, n, m⟩) (fun h => hzi (by have h9 := (HC.out.1 h).2.2.2.2.2.2.1; omega)))
          have q : (i == 0) = false := beq_eq_false_iff_ne.2 hzi
          clear hzi
          go_wp2_with fail
          go_ret
          exact ⟨by rw [F.out]; rfl, below_a1 _ _⟩
        have HZi := Lib.hid hzi
        have qi : (i == 0) = true := beq_iff_eq.2 hzi
        clear hzi
        by_cases hzx : l = 0
        rotate_left
        · have F := Lib.hid (askB_no (a := ⟨6, i, xs, n, m⟩) (fun h => by have h9 := (HC.out.1 h).2.2.2.2.2.2.2.1; have : xs = [] := (by rcases h9 with h9 | h9 | h9 | h9 <;> first | exact h9 | (exfalso; omega)); have h8 := HL.out; rw [this] at h8; exact hzx h8.symm))
          have q : ((l : Int) == 0) = false := beq_eq_false_iff_ne.2 (by omega)
          clear hzx
          go_wp2_with fail
          go_ret
          exact ⟨by rw [F.out]; rfl, below_a1 _ _⟩
        have HZX := Lib.hid (show xs = [] from List.eq_nil_of_length_eq_zero (by rw [HL.out]; exact hzx))
        have qx : ((l : Int) == 0) = true := beq_iff_eq.2 (by omega)
        clear hzx
        by_cases hzn : n = 0
        rotate_left
        · have F := Lib.hid (askB_no (a := ⟨6, i, xs, n, m⟩) (fun h => hzn (by have h9 := (HC.out.1 h).2.2.2.2.2.2.2.2.1; omega)))
          have q : (n == 0) = false := beq_eq_false_iff_ne.2 hzn
          clear hzn
          go_wp2_with fail
          go_ret
          exact ⟨by rw [F.out]; rfl, below_a1 _ _⟩
        have HZn := Lib.hid hzn
        have qn : (n == 0) = true := beq_iff_eq.2 hzn
        clear hzn
        by_cases hzm : m = 0
        rotate_left
        · have F := Lib.hid (askB_no (a := ⟨6, i, xs, n, m⟩) (fun h => hzm (by have h9 := (HC.out.1 h).2.2.2.2.2.2.2.2.2; omega)))
          have q : (m == 0) = false := beq_eq_false_iff_ne.2 hzm
          clear hzm
          go_wp2_with fail
          go_ret
          exact ⟨by rw [F.out]; rfl, below_a1 _ _⟩
        have HZm := Lib.hid hzm
        have qm : (m == 0) = true := beq_iff_eq.2 hzm
        clear hzm
        have F := Lib.hid (askB_yes (a := ⟨6, i, xs, n, m⟩) (HC.out.2 ⟨HG.out.1, HG.out.2.1, HG.out.2.2.1, HG.out.2.2.2.1, HG.out.2.2.2.2, HAA.out, .inr HZi.out, .inr (.inr (.inr HZX.out)), .inr (.inr HZn.out), .inr HZm.out⟩))
        go_wp2_with fail
        go_ret
        exact ⟨by rw [F.out]; rfl, below_a1 _ _⟩
      · refine (names_7 _).mono ?_
        rintro e w1 ⟨rfl, rfl⟩
        by_cases hzi : i = 0
        rotate_left
        · have F := Lib.hid (askB_no (a := ⟨7, i, xs, n, m⟩) (fun h => hzi (by have h9 := (HC.out.1 h).2.2.2.2.2.2.1; omega)))
          have q : (i == 0) = false := beq_eq_false_iff_ne.2 hzi
          clear hzi
          go_wp2_with fail
          go_ret
          exact ⟨by rw [F.out]; rfl, below_a1 _ _⟩
        have HZi := Lib.hid hzi
        have qi : (i == 0) = true := beq_iff_eq.2 hzi
        clear hzi
        by_cases hzn : n = 0
        rotate_left
        · have F := Lib.hid (askB_no (a := ⟨7, i, xs, n, m⟩) (fun h => hzn (by have h9 := (HC.out.1 h).2.2.2.2.2.2.2.2.1; omega)))
          have q : (n == 0) = false := beq_eq_false_iff_ne.2 hzn
          clear hzn
          go_wp2_with fail
          go_ret
          exact ⟨by rw [F.out]; rfl, below_a1 _ _⟩
        have HZn := Lib.hid hzn
        have qn : (n == 0) = true := beq_iff_eq.2 hzn
        clear hzn
        by_cases hzm : m = 0
        rotate_left
        · have F := Lib.hid (askB_no (a := ⟨7, i, xs, n, m⟩) (fun h => hzm (by have h9 := (HC.out.1 h).2.2.2.2.2.2.2.2.2; omega)))
          have q : (m == 0) = false := beq_eq_false_iff_ne.2 hzm
          clear hzm
          go_wp2_with fail
          go_ret
          exact ⟨by rw [F.out]; rfl, below_a1 _ _⟩
        have HZm := Lib.hid hzm
        have qm : (m == 0) = true := beq_iff_eq.2 hzm
        clear hzm
        have F := Lib.hid (askB_yes (a := ⟨7, i, xs, n, m⟩) (HC.out.2 ⟨HG.out.1, HG.out.2.1, HG.out.2.2.1, HG.out.2.2.2.1, HG.out.2.2.2.2, HAA.out, .inr HZi.out, .inr (.inr (.inl rfl)), .inr (.inr HZn.out), .inr HZm.out⟩))
        go_wp2_with fail
        go_ret
        exact ⟨by rw [F.out]; rfl, below_a1 _ _⟩
end Go.Proofs.YtchgfabgighbfaaGreatDoor.RriW
