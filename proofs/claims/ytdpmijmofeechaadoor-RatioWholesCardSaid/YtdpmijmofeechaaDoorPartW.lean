/- The walks that ratio.Part reaches: ratio.size, wide.Of, wide.Add, wide.Div where the high word is 0, bits.Add64, bits.Div64; ratio.Part at the input which the laws' 'lives' asks. -/
import Derived.Test.YtdpmijmofeechaaDoorTextW
import Derived.Laws.Externs
import Derived.Deep.RegionLaw
namespace Go.Proofs.YtdpmijmofeechaaDoor.PartW
set_option linter.unusedVariables false
open Go.RowKit Base BigM BigZ GcdM RatM RatW RefRat Glob WideM WideW Rat2

theorem add64 (x y c : Int) (hx : 0 ≤ x) (hy : 0 ≤ y) (hc0 : 0 ≤ c) (hc : c ≤ 1) (w : World) : (callFunc 112 #[.int .u64 x, .int .u64 y, .int .u64 c]).run Tryd.prog w =
    .ok (.value (.tuple #[.int .u64 ((x + y + c) % 18446744073709551616), .int .u64 ((x + y + c) / 18446744073709551616)])) w := by
  rw [run_callFunc_extern Tryd.func112 (by kernel_rfl) (by kernel_rfl) (by kernel_rfl) (e := add64Entry) (by kernel_rfl), run_add64 x y c hx hy hc0 hc]
  rfl
theorem add64_0 (x y : Int) (hx : 0 ≤ x) (hy : 0 ≤ y) (w : World) : (callFunc 112 #[.int .u64 x, .int .u64 y, .int .u64 0]).run Tryd.prog w =
    .ok (.value (.tuple #[.int .u64 ((x + y) % 18446744073709551616), .int .u64 ((x + y) / 18446744073709551616)])) w := by
  simpa using add64 x y 0 hx hy (Int.le_refl 0) (by decide) w

/-- A word. -/
def Word (x : Int) : Prop := 0 ≤ x ∧ x ≤ 18446744073709551615

set_option maxHeartbeats 1000000 in
theorem WAdd_any (ah al bh bl : Int) (h1 : Word ah) (h2 : Word al) (h3 : Word bh) (h4 : Word bl) (hno : ah + bh + (al + bl) / 18446744073709551616 ≤ 18446744073709551615) (w : World) :
    Calls Tryd.prog 88 #[.agg #[.int .u64 ah, .int .u64 al], .agg #[.int .u64 bh, .int .u64 bl]] w fun e w' =>
      e = .returned (.tuple #[.agg #[.int .u64 (ah + bh + (al + bl) / 18446744073709551616), .int .u64 ((al + bl) % 18446744073709551616)], .int .i64 0]) ∧ Below w.heap.size w w' := by
  obtain ⟨a1, a2⟩ := h1; obtain ⟨b1, b2⟩ := h2; obtain ⟨c1, c2⟩ := h3; obtain ⟨d1, d2⟩ := h4
  have k0 : 0 ≤ (al + bl) / 18446744073709551616 := by omega
  have k1 : (al + bl) / 18446744073709551616 ≤ 1 := by omega
  have k2 : (ah + bh + (al + bl) / 18446744073709551616) / 18446744073709551616 = 0 := by omega
  have k3 : (ah + bh + (al + bl) / 18446744073709551616) % 18446744073709551616 = ah + bh + (al + bl) / 18446744073709551616 := by omega
  go_enter Tryd.func88, Tryd.ntmps88
  go_wp2_with (first | simp only [add64_0 al bl b1 d1] | simp only [add64 ah bh _ a1 c1 k0 k1])
  refine bodyPost_ret (v := .tuple #[.agg #[.int .u64 (ah + bh + (al + bl) / 18446744073709551616), .int .u64 ((al + bl) % 18446744073709551616)], .int .i64 0]) (by simp [results, Tryd.results88, go_sem]) rfl ?_
  exact ⟨rfl, below_alloc3 _ _ _ _⟩

theorem WOf_any (x : Int) (w : World) : Calls Tryd.prog 89 #[.int .u64 x] w fun e w' => e = .returned (.agg #[.int .u64 0, .int .u64 x]) ∧ Below w.heap.size w w' := by
  go_enter Tryd.func89, Tryd.ntmps89
  go_wp2
  refine bodyPost_ret (v := .agg #[.int .u64 0, .int .u64 x]) (by simp [results, Tryd.results89, go_sem]) rfl ?_
  exact ⟨rfl, below_alloc1 _ _⟩

theorem size_any (a : Int) (w : World) (a0 : -9223372036854775808 ≤ a) (a1 : a ≤ 9223372036854775807) :
    Calls Tryd.prog 87 #[.int .i64 a] w fun e w' => e = .returned (.int .u64 (a.natAbs : Int)) ∧ w = w' := by
  by_cases h : a < 0
  · go_enter Tryd.func87, Tryd.ntmps87
    go_wp2
    go_ret
    exact ⟨ret_int (by first | omega | (simp [IntKind.wrap]; omega) | (unfold IntKind.wrap; simp [IntKind.bits, IntKind.signed]; omega)), rfl⟩
  · go_enter Tryd.func87, Tryd.ntmps87
    go_wp2
    go_ret
    exact ⟨ret_int (by omega), rfl⟩

set_option maxHeartbeats 1000000 in
set_option maxRecDepth 100000 in
/-- bits.Div64 where the high word is 0 -/
theorem Div64_lo (lo y : Int) (w : World) (h0 : 0 ≤ lo) (h1 : lo ≤ 18446744073709551615) (y0 : 1 ≤ y) (y1 : y ≤ 18446744073709551615) :
    Calls Tryd.prog 106 #[.int .u64 0, .int .u64 lo, .int .u64 y] w fun e w' => e = .returned (.tuple #[.int .u64 (lo / y), .int .u64 (lo % y)]) ∧ Below w.heap.size w w' := by
  have hy : (y == 0) = false := by simpa using (by omega : y ≠ 0)
  go_enter Tryd.func106, Tryd.ntmps106
  go_wp2_with fail
  go_quiet (fail)
  go_wp2
  refine bodyPost_ret (v := .tuple #[.int .u64 (lo / y), .int .u64 (lo % y)]) (by simp [results, Tryd.results106, go_sem]) rfl ?_
  exact ⟨rfl, below_drewN (Below.refl _ _) _⟩
set_option maxHeartbeats 1000000 in
/-- wide.Div where the high word is 0 -/
theorem WDiv_lo (lo y : Int) (w : World) (h0 : 0 ≤ lo) (h1 : lo ≤ 18446744073709551615) (y0 : 1 ≤ y) (y1 : y ≤ 18446744073709551615) :
    Calls Tryd.prog 73 #[.agg #[.int .u64 0, .int .u64 lo], .int .u64 y] w fun e w' => e = .returned (.tuple #[.agg #[.int .u64 0, .int .u64 (lo / y)], .int .u64 (lo % y), .int .i64 0]) ∧ Below w.heap.size w w' := by
  have hy : (y == 0) = false := by simpa using (by omega : y ≠ 0)
  have z1 : (0 : Int) / y = 0 := by simp
  have z2 : (0 : Int) % y = 0 := by simp
  obtain ⟨a, ea⟩ : ∃ a, lo / y = a := ⟨_, rfl⟩
  obtain ⟨b, eb⟩ : ∃ b, lo % y = b := ⟨_, rfl⟩
  rw [ea, eb]
  have EA := Lib.hid ea
  have EB := Lib.hid eb
  clear ea eb
  go_enter Tryd.func73, Tryd.ntmps73
  go_wp2_with fail
  go_quiet (fail)
  go_wp2_with fail
  refine (Div64_lo lo y _ h0 h1 y0 y1).mono ?_
  rintro e w1 ⟨rfl, hb1⟩
  rw [EA.out, EB.out]
  obtain ⟨k0, k1, u0, u1, hz⟩ := keepR hb1 (r := w.heap.size + 1) (c0 := .int .u64 0) (c1 := .int .u64 0) (by go_simp) (by go_simp) (by go_simp) (by go_simp)
  have hb := (below_drewN (below_alloc2 w _ _) _).trans (hb1.mono (below_drewN (below_alloc2 w _ _) _).size)
  clear hb1
  go_wp2
  refine bodyPost_ret (v := .tuple #[.agg #[.int .u64 0, .int .u64 a], .int .u64 b, .int .i64 0]) (by simp [results, Tryd.results73, go_sem, k0, k1]) rfl ?_
  exact ⟨rfl, Below.setCell (Below.setCell hb (by show w.heap.size ≤ w.heap.size + 1; omega) _) (by show w.heap.size ≤ w.heap.size + 1; omega) _⟩
theorem WMul_lives (w : World) : Calls Tryd.prog 74 #[.int .u64 7, .int .u64 2] w fun e w' => e = .returned (.agg #[.int .u64 0, .int .u64 14]) ∧ Below w.heap.size w w' := by
  have h := WMul_any 7 2 w (by omega) (by omega) (by omega) (by omega)
  rw [show (7 * 2 / 18446744073709551616 : Int) = 0 from by decide, show (7 * 2 % 18446744073709551616 : Int) = 14 from by decide] at h
  exact h
theorem WDiv_lives (w : World) : Calls Tryd.prog 73 #[.agg #[.int .u64 0, .int .u64 14], .int .u64 3] w fun e w' => e = .returned (.tuple #[.agg #[.int .u64 0, .int .u64 4], .int .u64 2, .int .i64 0]) ∧ Below w.heap.size w w' := by
  have h := WDiv_lo 14 3 w (by omega) (by omega) (by omega) (by omega)
  rw [show (14 / 3 : Int) = 4 from by decide, show (14 % 3 : Int) = 2 from by decide] at h
  exact h
theorem size_lives (w : World) : Calls Tryd.prog 87 #[.int .i64 (-7)] w fun e w' => e = .returned (.int .u64 7) ∧ w = w' := size_any (-7) w (by omega) (by omega)
theorem size_lives2 (w : World) : Calls Tryd.prog 87 #[.int .i64 2] w fun e w' => e = .returned (.int .u64 2) ∧ w = w' := size_any 2 w (by omega) (by omega)
theorem WAdd_lives (w : World) : Calls Tryd.prog 88 #[.agg #[.int .u64 0, .int .u64 4], .agg #[.int .u64 0, .int .u64 1]] w fun e w' => e = .returned (.tuple #[.agg #[.int .u64 0, .int .u64 5], .int .i64 0]) ∧ Below w.heap.size w w' := by
  have h := WAdd_any 0 4 0 1 ⟨by omega, by omega⟩ ⟨by omega, by omega⟩ ⟨by omega, by omega⟩ ⟨by omega, by omega⟩ (by omega) w
  rw [show (0 + 0 + (4 + 1) / 18446744073709551616 : Int) = 0 from by decide, show ((4 + 1) % 18446744073709551616 : Int) = 5 from by decide] at h
  exact h
theorem keepA {V w5 : World} {a b : Value} {t : TypeId} (hb : Below (V.alloc (.cells #[a, b] t)).heap.size (V.alloc (.cells #[a, b] t)) w5) :
    w5.cell? ⟨V.heap.size, 0, none⟩ = some a ∧ w5.cell? ⟨V.heap.size, 1, none⟩ = some b ∧ w5.frozen? ⟨V.heap.size, 0, none⟩ = false ∧ w5.frozen? ⟨V.heap.size, 1, none⟩ = false ∧ V.heap.size + 1 ≤ w5.heap.size :=
  keepR hb (by go_simp) (by go_simp) (by go_simp) (by go_simp)
theorem wrapm5 : wrap64 (IntKind.u64.wrap (-5)) = -5 := by decide +kernel
theorem bt {w W W' : World} (h : Below W.heap.size W W') (h0 : Below w.heap.size w W) : Below w.heap.size w W' := h0.trans (h.mono h0.size)
set_option maxHeartbeats 2000000 in
/-- ratio.Part at the input of 'lives' -/
theorem Part_lives (w : World) (hG : G w) :
    Calls Tryd.prog 55 #[.int .i64 (-7), .agg #[.int .i64 2, .int .i64 3]] w fun e w' => e = .returned (.tuple #[.int .i64 (-5), .int .i64 0]) ∧ Below w.heap.size w w' := by
  have F := Lib.hid (show isR 2 3 = true by decide +kernel)
  go_enter Tryd.func55, Tryd.ntmps55
  go_wp2_with fail
  refine (Is_any 2 3 _ (by omega) (by omega) (by omega) (by omega)).mono ?_
  rintro e w1 ⟨rfl, hb1⟩
  rw [F.out]
  obtain ⟨c0, c1, f0, f1, hz⟩ := keepR hb1 (r := w.heap.size) (c0 := .int .i64 2) (c1 := .int .i64 3) (by go_simp) (by go_simp) (by go_simp) (by go_simp)
  have hz : w.heap.size < w1.heap.size := hz
  have hb := Lib.hid ((below_alloc1 w (.cells #[.int .i64 2, .int .i64 3] 23)).trans (hb1.mono (below_alloc1 _ _).size))
  clear hb1
  have hn1 := Nat.ne_of_lt hz
  have hn1' := Nat.ne_of_gt hz
  have hq1 : w1.heap.size < w1.heap.size + 1 := Nat.lt_add_one _
  have hq1' : w.heap.size < w1.heap.size + 1 := Nat.lt_succ_of_lt hz
  have hq1a : ∀ o, w1.heap.size < (w1.alloc o).heap.size := fun o => (by simp)
  have hq1b : ∀ o, w.heap.size < (w1.alloc o).heap.size := fun o => (by simp; omega)
  go_wp2_with fail
  go_region_held3 (fun w' => w'.cell? ⟨w.heap.size, 0, none⟩ = some (.int .i64 2) ∧ w'.cell? ⟨w.heap.size, 1, none⟩ = some (.int .i64 3))
    (first | (go_keep; done) | (exact ⟨e0, e1⟩) | (exact ⟨d0, d1⟩))
    ((first | (go_at_call_of 87 (Value.int IntKind.i64 2); refine (size_lives2 _).mono ?_; rintro e w5 ⟨rfl, rfl⟩) | (go_at_call 87; refine (size_lives _).mono ?_; rintro e w5 ⟨rfl, rfl⟩) | (go_at_call 74; refine (WMul_lives _).mono ?_; rintro e w2 ⟨rfl, hb2⟩; have d0 := cell_at_below hb2 w.heap.size 0 (.int .i64 2) (by first | assumption | (go_simp; done) | (simp [*]; done)); have d1 := cell_at_below hb2 w.heap.size 1 (.int .i64 3) (by first | assumption | (go_simp; done) | (simp [*]; done)); have hz2 : w.heap.size < w2.heap.size := Nat.lt_of_lt_of_le (by first | assumption | (simp; omega)) hb2.size; have hz2' := Nat.lt_succ_of_lt hz2; have hn2 := Nat.ne_of_lt hz2; have hn2' := Nat.ne_of_gt hz2; obtain ⟨hc2, hf2⟩ := bcell hb2; have hs2 := hb2.size; have hq4 := fun (n : Nat) h => Nat.lt_of_lt_of_le (n := n) h hs2; clear hs2; have hq2 : w2.heap.size < w2.heap.size + 1 := Nat.lt_add_one _; have hq2' : w.heap.size < w2.heap.size + 1 := Nat.lt_succ_of_lt hz2; have hq2a : ∀ o, w2.heap.size < (w2.alloc o).heap.size := fun o => (by simp); have hq2b : ∀ o, w.heap.size < (w2.alloc o).heap.size := fun o => (by simp; omega)) | (go_at_call 73; rw [show IntKind.u64.wrap 3 = 3 from by decide]; refine (WDiv_lives _).mono ?_; rintro e w3 ⟨rfl, hb3⟩; have e0 := cell_at_below hb3 w.heap.size 0 (.int .i64 2) (by first | assumption | (go_simp; done) | (simp [*]; done)); have e1 := cell_at_below hb3 w.heap.size 1 (.int .i64 3) (by first | assumption | (go_simp; done) | (simp [*]; done)); have hz3 : w.heap.size < w3.heap.size := Nat.lt_of_lt_of_le (by first | assumption | (simp; omega)) hb3.size; have hz3' := Nat.lt_succ_of_lt hz3; have hn3 := Nat.ne_of_lt hz3; have hn3' := Nat.ne_of_gt hz3; obtain ⟨hc3, hf3⟩ := bcell hb3; have hs3 := hb3.size; have hq5 := fun (n : Nat) h => Nat.lt_of_lt_of_le (n := n) h hs3; clear hs3; have hq3 : w3.heap.size < w3.heap.size + 1 := Nat.lt_add_one _; have hq3' : w.heap.size < w3.heap.size + 1 := Nat.lt_succ_of_lt hz3)))
  · go_wp2_with fail
    clear hc2 hf2 hc3 hf3 hq4 hq5
    go_region_law ((first | (go_simp; go_at_call 89; refine (WOf_any 1 _).mono ?_; rintro e w5 ⟨rfl, hb5⟩; obtain ⟨hc5, hf5⟩ := bcell hb5; have hs5 := hb5.size; have hq8 := fun (n : Nat) h => Nat.lt_of_lt_of_le (n := n) h hs5; clear hs5) | (go_simp; go_at_call 88; refine (WAdd_lives _).mono ?_; rintro e w6 ⟨rfl, hb6⟩; obtain ⟨hc6, hf6⟩ := bcell hb6; have hs6 := hb6.size; have hq9 := fun (n : Nat) h => Nat.lt_of_lt_of_le (n := n) h hs6; clear hs6)))
    all_goals
      have y0 : w6.cell? ⟨w3.heap.size, 0, none⟩ = some (.int .u64 0) := cell_at_below hb6 _ _ _ (cell_at_below hb5 _ _ _ (by go_simp))
      have y1 : w6.cell? ⟨w3.heap.size, 1, none⟩ = some (.int .u64 4) := cell_at_below hb6 _ _ _ (cell_at_below hb5 _ _ _ (by go_simp))
      go_wp2_with fail
      refine bodyPost_ret (v := .tuple #[.int .i64 (wrap64 (IntKind.u64.wrap (-5))), .int .i64 0]) (by simp [results, Tryd.results55, go_sem]) rfl ?_
      refine ⟨ret_int2 wrapm5 rfl, ?_⟩
      repeat' (first | exact hb.out | refine Below.setCell ?_ ?_ _ | refine Below.alloc ?_ ?_ _ | refine Below.drew ?_ | refine bt hb6 ?_ | refine bt hb5 ?_ | refine bt hb3 ?_ | refine bt hb2 ?_)
      all_goals (first | omega | (show w.heap.size ≤ w3.heap.size; omega))
  · go_wp2_with fail
    have p0 : w3.cell? ⟨w2.heap.size, 0, none⟩ = some (.int .u64 0) := cell_at_below hb3 _ _ _ (by go_simp)
    have p1 : w3.cell? ⟨w2.heap.size, 1, none⟩ = some (.int .u64 0) := cell_at_below hb3 _ _ _ (by go_simp)
    have p2 : w3.frozen? ⟨w2.heap.size, 0, none⟩ = false := free_at_below hb3 _ _ (by go_simp) (by go_simp)
    have p3 : w3.frozen? ⟨w2.heap.size, 1, none⟩ = false := free_at_below hb3 _ _ (by go_simp) (by go_simp)
    have p4 : w2.heap.size < w3.heap.size := hq5 _ (by go_simp)
    clear hc2 hf2 hc3 hf3 hq4 hq5
    go_region_law ((first | (go_simp; go_at_call 89; refine (WOf_any 1 _).mono ?_; rintro e w5 ⟨rfl, hb5⟩; obtain ⟨hc5, hf5⟩ := bcell hb5; have hs5 := hb5.size; have hq8 := fun (n : Nat) h => Nat.lt_of_lt_of_le (n := n) h hs5; clear hs5) | (go_simp; go_at_call 88; refine (WAdd_lives _).mono ?_; rintro e w6 ⟨rfl, hb6⟩; obtain ⟨hc6, hf6⟩ := bcell hb6; have hs6 := hb6.size; have hq9 := fun (n : Nat) h => Nat.lt_of_lt_of_le (n := n) h hs6; clear hs6)))
    all_goals
      have y0 : w6.cell? ⟨w2.heap.size, 0, none⟩ = some (.int .u64 0) := cell_at_below hb6 _ _ _ (cell_at_below hb5 _ _ _ (by go_simp))
      have y1 : w6.cell? ⟨w2.heap.size, 1, none⟩ = some (.int .u64 4) := cell_at_below hb6 _ _ _ (cell_at_below hb5 _ _ _ (by go_simp))
      go_wp2_with fail
      refine bodyPost_ret (v := .tuple #[.int .i64 (wrap64 (IntKind.u64.wrap (-5))), .int .i64 0]) (by simp [results, Tryd.results55, go_sem]) rfl ?_
      refine ⟨ret_int2 wrapm5 rfl, ?_⟩
      repeat' (first | exact hb.out | refine Below.setCell ?_ ?_ _ | refine Below.alloc ?_ ?_ _ | refine Below.drew ?_ | refine bt hb6 ?_ | refine bt hb5 ?_ | refine bt hb3 ?_ | refine bt hb2 ?_)
      all_goals (first | omega | (show w.heap.size ≤ w2.heap.size; omega))
  · go_wp2_with fail
    have p0 : w3.cell? ⟨w1.heap.size, 0, none⟩ = some (.int .u64 0) := cell_at_below hb3 _ _ _ (cell_at_below hb2 _ _ _ (by go_simp))
    have p1 : w3.cell? ⟨w1.heap.size, 1, none⟩ = some (.int .u64 0) := cell_at_below hb3 _ _ _ (cell_at_below hb2 _ _ _ (by go_simp))
    have p2 : w3.frozen? ⟨w1.heap.size, 0, none⟩ = false := free_at_below hb3 _ _ (free_at_below hb2 _ _ (by go_simp) (by go_simp)) (hq4 _ (by go_simp))
    have p3 : w3.frozen? ⟨w1.heap.size, 1, none⟩ = false := free_at_below hb3 _ _ (free_at_below hb2 _ _ (by go_simp) (by go_simp)) (hq4 _ (by go_simp))
    have p4 : w1.heap.size < w3.heap.size := hq5 _ (hq4 _ (by go_simp))
    clear hc2 hf2 hc3 hf3 hq4 hq5
    go_region_law ((first | (go_simp; go_at_call 89; refine (WOf_any 1 _).mono ?_; rintro e w5 ⟨rfl, hb5⟩; obtain ⟨hc5, hf5⟩ := bcell hb5; have hs5 := hb5.size; have hq8 := fun (n : Nat) h => Nat.lt_of_lt_of_le (n := n) h hs5; clear hs5) | (go_simp; go_at_call 88; refine (WAdd_lives _).mono ?_; rintro e w6 ⟨rfl, hb6⟩; obtain ⟨hc6, hf6⟩ := bcell hb6; have hs6 := hb6.size; have hq9 := fun (n : Nat) h => Nat.lt_of_lt_of_le (n := n) h hs6; clear hs6)))
    all_goals
      have y0 : w6.cell? ⟨w1.heap.size, 0, none⟩ = some (.int .u64 0) := cell_at_below hb6 _ _ _ (cell_at_below hb5 _ _ _ (by go_simp))
      have y1 : w6.cell? ⟨w1.heap.size, 1, none⟩ = some (.int .u64 4) := cell_at_below hb6 _ _ _ (cell_at_below hb5 _ _ _ (by go_simp))
      go_wp2_with fail
      refine bodyPost_ret (v := .tuple #[.int .i64 (wrap64 (IntKind.u64.wrap (-5))), .int .i64 0]) (by simp [results, Tryd.results55, go_sem]) rfl ?_
      refine ⟨ret_int2 wrapm5 rfl, ?_⟩
      repeat' (first | exact hb.out | refine Below.setCell ?_ ?_ _ | refine Below.alloc ?_ ?_ _ | refine Below.drew ?_ | refine bt hb6 ?_ | refine bt hb5 ?_ | refine bt hb3 ?_ | refine bt hb2 ?_)
      all_goals (first | omega | (show w.heap.size ≤ w1.heap.size; omega))
  · go_wp2_with fail
    have p0 : w3.cell? ⟨w1.heap.size, 0, none⟩ = some (.int .u64 0) := cell_at_below hb3 _ _ _ (cell_at_below hb2 _ _ _ (by go_simp))
    have p1 : w3.cell? ⟨w1.heap.size, 1, none⟩ = some (.int .u64 0) := cell_at_below hb3 _ _ _ (cell_at_below hb2 _ _ _ (by go_simp))
    have p2 : w3.frozen? ⟨w1.heap.size, 0, none⟩ = false := free_at_below hb3 _ _ (free_at_below hb2 _ _ (by go_simp) (by go_simp)) (hq4 _ (by go_simp))
    have p3 : w3.frozen? ⟨w1.heap.size, 1, none⟩ = false := free_at_below hb3 _ _ (free_at_below hb2 _ _ (by go_simp) (by go_simp)) (hq4 _ (by go_simp))
    have p4 : w1.heap.size < w3.heap.size := hq5 _ (hq4 _ (by go_simp))
    clear hc2 hf2 hc3 hf3 hq4 hq5
    go_region_law ((first | (go_simp; go_at_call 89; refine (WOf_any 1 _).mono ?_; rintro e w5 ⟨rfl, hb5⟩; obtain ⟨hc5, hf5⟩ := bcell hb5; have hs5 := hb5.size; have hq8 := fun (n : Nat) h => Nat.lt_of_lt_of_le (n := n) h hs5; clear hs5) | (go_simp; go_at_call 88; refine (WAdd_lives _).mono ?_; rintro e w6 ⟨rfl, hb6⟩; obtain ⟨hc6, hf6⟩ := bcell hb6; have hs6 := hb6.size; have hq9 := fun (n : Nat) h => Nat.lt_of_lt_of_le (n := n) h hs6; clear hs6)))
    all_goals
      have y0 : w6.cell? ⟨w1.heap.size, 0, none⟩ = some (.int .u64 0) := cell_at_below hb6 _ _ _ (cell_at_below hb5 _ _ _ (by go_simp))
      have y1 : w6.cell? ⟨w1.heap.size, 1, none⟩ = some (.int .u64 4) := cell_at_below hb6 _ _ _ (cell_at_below hb5 _ _ _ (by go_simp))
      go_wp2_with fail
      refine bodyPost_ret (v := .tuple #[.int .i64 (wrap64 (IntKind.u64.wrap (-5))), .int .i64 0]) (by simp [results, Tryd.results55, go_sem]) rfl ?_
      refine ⟨ret_int2 wrapm5 rfl, ?_⟩
      repeat' (first | exact hb.out | refine Below.setCell ?_ ?_ _ | refine Below.alloc ?_ ?_ _ | refine Below.drew ?_ | refine bt hb6 ?_ | refine bt hb5 ?_ | refine bt hb3 ?_ | refine bt hb2 ?_)
      all_goals (first | omega | (show w.heap.size ≤ w1.heap.size; omega))
  · go_wp2_with fail
    have p0 : w3.cell? ⟨w1.heap.size, 0, none⟩ = some (.int .u64 0) := cell_at_below hb3 _ _ _ (cell_at_below hb2 _ _ _ (by go_simp))
    have p1 : w3.cell? ⟨w1.heap.size, 1, none⟩ = some (.int .u64 0) := cell_at_below hb3 _ _ _ (cell_at_below hb2 _ _ _ (by go_simp))
    have p2 : w3.frozen? ⟨w1.heap.size, 0, none⟩ = false := free_at_below hb3 _ _ (free_at_below hb2 _ _ (by go_simp) (by go_simp)) (hq4 _ (by go_simp))
    have p3 : w3.frozen? ⟨w1.heap.size, 1, none⟩ = false := free_at_below hb3 _ _ (free_at_below hb2 _ _ (by go_simp) (by go_simp)) (hq4 _ (by go_simp))
    have p4 : w1.heap.size < w3.heap.size := hq5 _ (hq4 _ (by go_simp))
    clear hc2 hf2 hc3 hf3 hq4 hq5
    go_region_law ((first | (go_simp; go_at_call 89; refine (WOf_any 1 _).mono ?_; rintro e w5 ⟨rfl, hb5⟩; obtain ⟨hc5, hf5⟩ := bcell hb5; have hs5 := hb5.size; have hq8 := fun (n : Nat) h => Nat.lt_of_lt_of_le (n := n) h hs5; clear hs5) | (go_simp; go_at_call 88; refine (WAdd_lives _).mono ?_; rintro e w6 ⟨rfl, hb6⟩; obtain ⟨hc6, hf6⟩ := bcell hb6; have hs6 := hb6.size; have hq9 := fun (n : Nat) h => Nat.lt_of_lt_of_le (n := n) h hs6; clear hs6)))
    all_goals
      have y0 : w6.cell? ⟨w1.heap.size, 0, none⟩ = some (.int .u64 0) := cell_at_below hb6 _ _ _ (cell_at_below hb5 _ _ _ (by go_simp))
      have y1 : w6.cell? ⟨w1.heap.size, 1, none⟩ = some (.int .u64 4) := cell_at_below hb6 _ _ _ (cell_at_below hb5 _ _ _ (by go_simp))
      go_wp2_with fail
      refine bodyPost_ret (v := .tuple #[.int .i64 (wrap64 (IntKind.u64.wrap (-5))), .int .i64 0]) (by simp [results, Tryd.results55, go_sem]) rfl ?_
      refine ⟨ret_int2 wrapm5 rfl, ?_⟩
      repeat' (first | exact hb.out | refine Below.setCell ?_ ?_ _ | refine Below.alloc ?_ ?_ _ | refine Below.drew ?_ | refine bt hb6 ?_ | refine bt hb5 ?_ | refine bt hb3 ?_ | refine bt hb2 ?_)
      all_goals (first | omega | (show w.heap.size ≤ w1.heap.size; omega))
end Go.Proofs.YtdpmijmofeechaaDoor.PartW
