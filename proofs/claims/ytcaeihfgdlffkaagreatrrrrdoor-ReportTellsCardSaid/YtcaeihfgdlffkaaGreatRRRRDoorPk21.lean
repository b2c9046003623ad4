/- A way to work after the document, walked: copseref20.Right. -/
import Derived.Test.YtcaeihfgdlffkaaGreatRRRRDoorPk00
import Derived.Test.YtcaeihfgdlffkaaGreatRRRRDoorPk01
import Derived.Test.YtcaeihfgdlffkaaGreatRRRRDoorPk15
import Derived.Laws.CopyRow
import Derived.Deep.AppendLies
namespace Go.Proofs.YtcaeihfgdlffkaaGreatRRRRDoor.RscX
set_option linter.unusedVariables false
set_option linter.unusedSimpArgs false
open Go.RowKit Base SeqM CfM SchX

def inB (n lo hi : Int) : Bool := decide (lo ≤ n ∧ n ≤ hi)
theorem inB_no {n lo hi : Int} (h : inB n lo hi = false) : ¬ (lo ≤ n ∧ n ≤ hi) := of_decide_eq_false h
theorem inB_yes {n lo hi : Int} (h : inB n lo hi = true) : lo ≤ n ∧ n ≤ hi := of_decide_eq_true h
theorem in_any (n lo hi : Int) (w : World) : Calls Tryz.prog 74 #[.int .i64 n, .int .i64 lo, .int .i64 hi] w fun e w' => e = .returned (.bool (inB n lo hi)) ∧ w = w' := by
  by_cases h1 : lo ≤ n
  · have F := Lib.hid (show inB n lo hi = decide (n ≤ hi) by unfold inB; simp [h1])
    go_enter Tryz.func74, Tryz.ntmps74
    go_wp2
    go_ret
    exact ⟨by rw [F.out]; rfl, rfl⟩
  · have F := Lib.hid (show inB n lo hi = false from decide_eq_false (fun h => h1 h.1))
    have hd : decide (lo ≤ n) = false := decide_eq_false h1
    clear h1
    go_enter Tryz.func74, Tryz.ntmps74
    go_wp2
    go_ret
    exact ⟨by rw [F.out]; rfl, rfl⟩
set_option maxHeartbeats 8000000 in
set_option maxRecDepth 100000 in
theorem RRight_any (c : Cf) (w : World) :
    Calls Tryz.prog 42 #[.agg (CfM.cfC c).toArray] w fun e w' => e = .returned (.bool (confB c)) ∧ Below w.heap.size w w' := by
  have HNO := Lib.hid (fun (h : ¬ confOk c) => conf_no h)
  have HYE := Lib.hid (fun (h : confOk c) => conf_yes h)
  obtain ⟨c0, c1, c2, c3, c4, c5, c6, c7, c8, c9, c10⟩ := c
  unfold CfM.cfC
  unfold confOk at HNO HYE
  dsimp only at HNO HYE ⊢
  generalize confB ⟨c0, c1, c2, c3, c4, c5, c6, c7, c8, c9, c10⟩ = R at *
  cases b0 : inB c0 1 8
  · have F := Lib.hid (HNO.out (fun h => inB_no b0 (by omega)))
    go_enter Tryz.func42, Tryz.ntmps42
    go_wp2_with (go_at_call 74; refine (in_any _ _ _ _).mono ?_; rintro e w' ⟨rfl, rfl⟩)
    go_ret
    exact ⟨by rw [F.out]; rfl, below_a1 _ _⟩
  cases b1 : inB c1 2 256
  · have F := Lib.hid (HNO.out (fun h => inB_no b1 (by omega)))
    go_enter Tryz.func42, Tryz.ntmps42
    go_wp2_with (go_at_call 74; refine (in_any _ _ _ _).mono ?_; rintro e w' ⟨rfl, rfl⟩)
    go_ret
    exact ⟨by rw [F.out]; rfl, below_a1 _ _⟩
  cases b2 : inB c2 1 16
  · have F := Lib.hid (HNO.out (fun h => inB_no b2 (by omega)))
    go_enter Tryz.func42, Tryz.ntmps42
    go_wp2_with (go_at_call 74; refine (in_any _ _ _ _).mono ?_; rintro e w' ⟨rfl, rfl⟩)
    go_ret
    exact ⟨by rw [F.out]; rfl, below_a1 _ _⟩
  cases b3 : inB c3 2 64
  · have F := Lib.hid (HNO.out (fun h => inB_no b3 (by omega)))
    go_enter Tryz.func42, Tryz.ntmps42
    go_wp2_with (go_at_call 74; refine (in_any _ _ _ _).mono ?_; rintro e w' ⟨rfl, rfl⟩)
    go_ret
    exact ⟨by rw [F.out]; rfl, below_a1 _ _⟩
  by_cases b4 : c1 < c3
  · have F := Lib.hid (HNO.out (fun h => by omega))
    go_enter Tryz.func42, Tryz.ntmps42
    go_wp2_with (go_at_call 74; refine (in_any _ _ _ _).mono ?_; rintro e w' ⟨rfl, rfl⟩)
    go_ret
    exact ⟨by rw [F.out]; rfl, below_a1 _ _⟩
  cases b5 : inB c4 1 256
  · have F := Lib.hid (HNO.out (fun h => inB_no b5 (by omega)))
    go_enter Tryz.func42, Tryz.ntmps42
    go_wp2_with (go_at_call 74; refine (in_any _ _ _ _).mono ?_; rintro e w' ⟨rfl, rfl⟩)
    go_ret
    exact ⟨by rw [F.out]; rfl, below_a1 _ _⟩
  cases b6 : inB c5 1 2
  · have F := Lib.hid (HNO.out (fun h => inB_no b6 (by omega)))
    go_enter Tryz.func42, Tryz.ntmps42
    go_wp2_with (go_at_call 74; refine (in_any _ _ _ _).mono ?_; rintro e w' ⟨rfl, rfl⟩)
    go_ret
    exact ⟨by rw [F.out]; rfl, below_a1 _ _⟩
  cases b7 : inB c7 2 1000
  · have F := Lib.hid (HNO.out (fun h => inB_no b7 (by omega)))
    go_enter Tryz.func42, Tryz.ntmps42
    go_wp2_with (go_at_call 74; refine (in_any _ _ _ _).mono ?_; rintro e w' ⟨rfl, rfl⟩)
    go_ret
    exact ⟨by rw [F.out]; rfl, below_a1 _ _⟩
  have hw7 : IntKind.i64.wrap (c7 - 1) = c7 - 1 := IntWalk.i64_in _ (by have h7 := inB_yes b7; omega)
  cases b8 : inB c6 1 (c7 - 1)
  · have F := Lib.hid (HNO.out (fun h => inB_no b8 (by omega)))
    go_enter Tryz.func42, Tryz.ntmps42
    go_wp2_with (go_at_call 74; refine (in_any _ _ _ _).mono ?_; rintro e w' ⟨rfl, rfl⟩)
    go_ret
    exact ⟨by rw [F.out]; rfl, below_a1 _ _⟩
  cases b9 : inB c8 1 64
  · have F := Lib.hid (HNO.out (fun h => inB_no b9 (by omega)))
    go_enter Tryz.func42, Tryz.ntmps42
    go_wp2_with (go_at_call 74; refine (in_any _ _ _ _).mono ?_; rintro e w' ⟨rfl, rfl⟩)
    go_ret
    exact ⟨by rw [F.out]; rfl, below_a1 _ _⟩
  cases b10 : inB c9 1 64
  · have F := Lib.hid (HNO.out (fun h => inB_no b10 (by omega)))
    go_enter Tryz.func42, Tryz.ntmps42
    go_wp2_with (go_at_call 74; refine (in_any _ _ _ _).mono ?_; rintro e w' ⟨rfl, rfl⟩)
    go_ret
    exact ⟨by rw [F.out]; rfl, below_a1 _ _⟩
  cases b11 : inB c10 1 256
  · have F := Lib.hid (HNO.out (fun h => inB_no b11 (by omega)))
    go_enter Tryz.func42, Tryz.ntmps42
    go_wp2_with (go_at_call 74; refine (in_any _ _ _ _).mono ?_; rintro e w' ⟨rfl, rfl⟩)
    go_ret
    exact ⟨by rw [F.out]; rfl, below_a1 _ _⟩
  have F := Lib.hid (HYE.out (by have h0 := inB_yes b0; have h1 := inB_yes b1; have h2 := inB_yes b2; have h3 := inB_yes b3; have h5 := inB_yes b5; have h6 := inB_yes b6; have h7 := inB_yes b7; have h8 := inB_yes b8; have h9 := inB_yes b9; have h10 := inB_yes b10; have h11 := inB_yes b11; omega))
  go_enter Tryz.func42, Tryz.ntmps42
  go_wp2_with (go_at_call 74; refine (in_any _ _ _ _).mono ?_; rintro e w' ⟨rfl, rfl⟩)
  go_ret
  exact ⟨by rw [F.out]; rfl, below_a1 _ _⟩
end Go.Proofs.YtcaeihfgdlffkaaGreatRRRRDoor.RscX

/- The turns of a way to work after the document, walked: copseref20.Turn, Next. -/
namespace Go.Proofs.YtcaeihfgdlffkaaGreatRRRRDoor.RscY
set_option linter.unusedVariables false
set_option linter.unusedSimpArgs false
open Go.RowKit Base SeqM CfM SchX SchY RscX

/-- is a count a turn? -/
def turnB (c3 c4 n : Int) : Bool := decide (c3 ≤ n) && decide (n % c4 = 0)
theorem next_turn {c : Cf} (hc : confOk c) {n : Int} (hn : cnt n) : turnB c.c3 c.c4 (nextC c n) = true := by
  have h := next_bd hc hn
  unfold turnB
  rw [decide_eq_true h.2.2, Bool.true_and]
  refine decide_eq_true ?_
  unfold nextC
  exact Int.mul_emod_left _ _
theorem next_least {c : Cf} (hc : confOk c) {n m : Int} (hn : cnt n) (hm : n < m) (ht : turnB c.c3 c.c4 m = true) : nextC c n ≤ m := by
  have hi := cf_in hc
  unfold cnt at hn
  unfold turnB at ht
  rw [Bool.and_eq_true] at ht
  have t1 := of_decide_eq_true ht.1
  have t2 := of_decide_eq_true ht.2
  have hb := ceil_bd (a := max (n + 1) c.c3) (b := c.c4) (by omega) (by omega)
  unfold nextC
  have hq := Int.mul_ediv_add_emod m c.c4
  rw [t2, Int.add_zero] at hq
  generalize m / c.c4 = q at *
  generalize ceilC (max (n + 1) c.c3) c.c4 = C at *
  have hM : max (n + 1) c.c3 ≤ m := by omega
  by_cases hqC : C ≤ q
  · have := Int.mul_le_mul_of_nonneg_right hqC (show 0 ≤ c.c4 by omega)
    rw [Int.mul_comm q] at this
    omega
  · have h2 : q + 1 ≤ C := by omega
    have := Int.mul_le_mul_of_nonneg_right h2 (show 0 ≤ c.c4 by omega)
    rw [Int.add_mul, Int.mul_comm q, hq] at this
    omega
set_option maxHeartbeats 2000000 in
set_option maxRecDepth 100000 in
theorem RTurn_any (c : Cf) (n : Int) (hc : confOk c) (hn : 0 ≤ n) (w : World) :
    Calls Tryz.prog 138 #[.agg (CfM.cfC c).toArray, .int .i64 n] w fun e w' => e = .returned (.bool (turnB c.c3 c.c4 n)) ∧ Below w.heap.size w w' := by
  have hi := cf_in hc
  obtain ⟨c0, c1, c2, c3, c4, c5, c6, c7, c8, c9, c10⟩ := c
  unfold CfM.cfC
  dsimp only at hi ⊢
  have HT := Lib.hid (show turnB c3 c4 n = (decide (c3 ≤ n) && decide (n % c4 = 0)) from rfl)
  generalize turnB c3 c4 n = R at *
  have e1 : n.tmod c4 = n % c4 := Int.tmod_eq_emod_of_nonneg hn
  have hz : ¬ c4 = 0 := by omega
  have hz0 : (c4 == 0) = false := by simpa using hz
  have hzm : (c4 == -1) = false := by simpa using (by omega : c4 ≠ -1)
  have hmb : 0 ≤ n % c4 ∧ n % c4 < 256 := by
    have h1 := Int.emod_nonneg n hz
    have h2 := Int.emod_lt_of_pos n (show 0 < c4 by omega)
    omega
  generalize n % c4 = r at *
  clear hc
  by_cases h1 : c3 ≤ n
  · have F := Lib.hid (show R = decide (r = 0) by rw [HT.out, decide_eq_true h1, Bool.true_and])
    by_cases h2 : r = 0
    · have F2 := Lib.hid (F.out.trans (decide_eq_true h2))
      subst h2
      go_enter Tryz.func138, Tryz.ntmps138
      go_wp2
      go_ret
      exact ⟨by rw [F2.out]; rfl, below_a1 _ _⟩
    · have F2 := Lib.hid (F.out.trans (decide_eq_false h2))
      have hr0 : (r == 0) = false := by simpa using h2
      go_enter Tryz.func138, Tryz.ntmps138
      go_wp2
      go_ret
      exact ⟨by rw [F2.out]; rfl, below_a1 _ _⟩
  · have F := Lib.hid (show R = false by rw [HT.out, decide_eq_false h1]; rfl)
    have hd : decide (c3 ≤ n) = false := decide_eq_false h1
    clear h1
    go_enter Tryz.func138, Tryz.ntmps138
    go_wp2
    go_ret
    exact ⟨by rw [F.out]; rfl, below_a1 _ _⟩
def NxRel (q n : Int) (w : World) (m : Value) (wr : World) : Prop := ∃ a : Int, n < a ∧ a ≤ q ∧ m = .int .i64 a ∧ Below w.heap.size w wr
set_option maxHeartbeats 4000000 in
set_option maxRecDepth 100000 in
theorem RNext_ok (c : Cf) (n : Int) (hc : confOk c) (hn : cnt n) (w : World) :
    Calls Tryz.prog 114 #[.agg (CfM.cfC c).toArray, .int .i64 n] w fun e w' => e = .returned (.tuple #[.int .i64 (nextC c n), .int .i64 0]) ∧ Below w.heap.size w w' := by
  have h7 : -9223372036854775807 ≤ c.c7 ∧ c.c7 ≤ 9223372036854775807 := by unfold confOk at hc; omega
  have HRI := Lib.hid (fun W => RRight_any c W)
  rw [conf_yes hc] at HRI
  have hnb := next_bd hc hn
  have HTU := Lib.hid (fun (m : Int) (hm : 0 ≤ m) W => RTurn_any c m hc hm W)
  have HTQ := Lib.hid (next_turn hc hn)
  have HLE := Lib.hid (fun (m : Int) (hm : n < m) h => next_least hc hn hm h)
  obtain ⟨q, hq⟩ : ∃ q, nextC c n = q := ⟨_, rfl⟩
  rw [hq] at hnb HTQ HLE ⊢
  unfold cnt at hn
  have hin : inB n 0 1099511627776 = true := decide_eq_true hn
  clear hc hq h7
  obtain ⟨c0, c1, c2, c3, c4, c5, c6, c7, c8, c9, c10⟩ := c
  unfold CfM.cfC at HRI HTU ⊢
  dsimp only at HRI HTU HTQ HLE hnb ⊢
  obtain ⟨W, eW⟩ : ∃ W, w.alloc (.cells #[.int .i64 c0, .int .i64 c1, .int .i64 c2, .int .i64 c3, .int .i64 c4, .int .i64 c5, .int .i64 c6, .int .i64 c7, .int .i64 c8, .int .i64 c9, .int .i64 c10] 23) = W := ⟨_, rfl⟩
  have HB := Lib.hid (show Below w.heap.size w W by rw [← eW]; exact below_a1 _ _)
  have HCS := Lib.hid (show ∀ W' : World, Below W.heap.size W W' → (W'.cell? ⟨w.heap.size, 0, none⟩ = some (.int .i64 c0) ∧ W'.cell? ⟨w.heap.size, 1, none⟩ = some (.int .i64 c1) ∧ W'.cell? ⟨w.heap.size, 2, none⟩ = some (.int .i64 c2) ∧ W'.cell? ⟨w.heap.size, 3, none⟩ = some (.int .i64 c3) ∧ W'.cell? ⟨w.heap.size, 4, none⟩ = some (.int .i64 c4) ∧ W'.cell? ⟨w.heap.size, 5, none⟩ = some (.int .i64 c5) ∧ W'.cell? ⟨w.heap.size, 6, none⟩ = some (.int .i64 c6) ∧ W'.cell? ⟨w.heap.size, 7, none⟩ = some (.int .i64 c7) ∧ W'.cell? ⟨w.heap.size, 8, none⟩ = some (.int .i64 c8) ∧ W'.cell? ⟨w.heap.size, 9, none⟩ = some (.int .i64 c9) ∧ W'.cell? ⟨w.heap.size, 10, none⟩ = some (.int .i64 c10)) by
    intro W' hb
    subst eW
    refine ⟨keepA hb ?_, keepA hb ?_, keepA hb ?_, keepA hb ?_, keepA hb ?_, keepA hb ?_, keepA hb ?_, keepA hb ?_, keepA hb ?_, keepA hb ?_, keepA hb ?_⟩ <;> go_simp)
  obtain ⟨d0, d1, d2, d3, d4, d5, d6, d7, d8, d9, d10⟩ := HCS.out W (Below.refl _ _)
  go_enter Tryz.func114, Tryz.ntmps114
  go_wp2_with fail
  refine (HRI.out _).mono ?_
  rintro e w1 ⟨rfl, hb1⟩
  have HB1 := Lib.hid hb1
  clear d0 d1 d2 d3 d4 d5 d6 d7 d8 d9 d10 hb1
  go_wp2_with fail
  refine (in_any _ _ _ _).mono ?_
  rintro e w2 ⟨rfl, rfl⟩
  rw [hin]
  go_wp2_with fail
  go_loopw [6] (fun m wr => NxRel q n W m wr) (fun m _ => (q - intOf m).toNat)
  case atStart => exact ⟨n + 1, by omega, by omega, rfl, HB1.out⟩
  case round =>
    obtain ⟨a, h1, h2, rfl, hb⟩ := hrel
    have HBR := Lib.hid hb
    obtain ⟨d0, d1, d2, d3, d4, d5, d6, d7, d8, d9, d10⟩ := HCS.out wr hb
    clear hb
    go_wp2_with fail
    refine (HTU.out a (by omega) _).mono ?_
    rintro e w3 ⟨rfl, hb3⟩
    have HB3 := Lib.hid (bt hb3 HBR.out)
    clear hb3 d0 d1 d2 d3 d4 d5 d6 d7 d8 d9 d10
    cases hta : turnB c3 c4 a
    · have hne : a ≠ q := fun e => by rw [e, HTQ.out] at hta; cases hta
      clear hta
      have hlt : a + 1 ≤ q := by omega
      go_wp2_with fail
      exact ⟨⟨a + 1, by omega, hlt, rfl, HB3.out⟩, by simp [intOf]; omega⟩
    · have haq : a = q := by have := HLE.out a h1 hta; omega
      subst haq
      clear hta
      go_wp2_with fail
      go_ret2
      exact ⟨rfl, bt HB3.out HB.out⟩
end Go.Proofs.YtcaeihfgdlffkaaGreatRRRRDoor.RscY

/- The turns up to a count, and the k-th one, after the document, walked. -/
namespace Go.Proofs.YtcaeihfgdlffkaaGreatRRRRDoor.RscZ
set_option linter.unusedVariables false
set_option linter.unusedSimpArgs false
open Go.RowKit Base SeqM CfM SchX SchY RscX RscY StM

theorem up_zero {c : Cf} (hc : confOk c) : upC c 0 = 0 := by
  have h := next_bd hc (n := 0) (by decide)
  unfold upC
  rw [if_pos (by omega)]
theorem turns_up {c : Cf} {n : Int} (hc : confOk c) (hn : cnt n) : turnsC c n = upC c n := by
  have h := up_bd hc hn
  unfold turnsC
  rw [up_zero hc]
  omega
set_option maxHeartbeats 4000000 in
set_option maxRecDepth 100000 in
theorem RTurns_ok (c : Cf) (n : Int) (hc : confOk c) (hn : cnt n) (w : World) :
    Calls Tryz.prog 115 #[.agg (CfM.cfC c).toArray, .int .i64 0, .int .i64 n] w fun e w' => e = .returned (.tuple #[.int .i64 (turnsC c n), .int .i64 0]) ∧ Below w.heap.size w w' := by
  have h7 : -9223372036854775807 ≤ c.c7 ∧ c.c7 ≤ 9223372036854775807 := by unfold confOk at hc; omega
  have HRI := Lib.hid (fun W => RRight_any c W)
  rw [conf_yes hc] at HRI
  have HNX := Lib.hid (fun W => RNext_ok c 0 hc (by decide) W)
  have hb := next_bd hc (n := 0) (by decide)
  have hi := cf_in hc
  have hub := up_bd hc hn
  rw [turns_up hc hn]
  have HU := Lib.hid (show upC c n = if n < nextC c 0 then 0 else (n - nextC c 0) / c.c4 + 1 from rfl)
  generalize upC c n = E at *
  obtain ⟨q, hq⟩ : ∃ q, nextC c 0 = q := ⟨_, rfl⟩
  rw [hq] at hb HNX HU
  unfold cnt at hn
  have hin : inB n 0 1099511627776 = true := decide_eq_true hn
  have hin0 : inB 0 0 1099511627776 = true := by decide
  clear hc hq h7
  obtain ⟨c0, c1, c2, c3, c4, c5, c6, c7, c8, c9, c10⟩ := c
  unfold CfM.cfC at HRI HNX ⊢
  dsimp only at HRI HNX HU hi hb ⊢
  have hc40 : (c4 == 0) = false := by simpa using (by omega : c4 ≠ 0)
  have hc4m : (c4 == -1) = false := by simpa using (by omega : c4 ≠ -1)
  have hc4z : ¬ c4 = 0 := by omega
  obtain ⟨W, eW⟩ : ∃ W, w.alloc (.cells #[.int .i64 c0, .int .i64 c1, .int .i64 c2, .int .i64 c3, .int .i64 c4, .int .i64 c5, .int .i64 c6, .int .i64 c7, .int .i64 c8, .int .i64 c9, .int .i64 c10] 23) = W := ⟨_, rfl⟩
  have HB := Lib.hid (show Below w.heap.size w W by rw [← eW]; exact below_a1 _ _)
  have HCS := Lib.hid (show ∀ W' : World, Below W.heap.size W W' → (W'.cell? ⟨w.heap.size, 0, none⟩ = some (.int .i64 c0) ∧ W'.cell? ⟨w.heap.size, 1, none⟩ = some (.int .i64 c1) ∧ W'.cell? ⟨w.heap.size, 2, none⟩ = some (.int .i64 c2) ∧ W'.cell? ⟨w.heap.size, 3, none⟩ = some (.int .i64 c3) ∧ W'.cell? ⟨w.heap.size, 4, none⟩ = some (.int .i64 c4) ∧ W'.cell? ⟨w.heap.size, 5, none⟩ = some (.int .i64 c5) ∧ W'.cell? ⟨w.heap.size, 6, none⟩ = some (.int .i64 c6) ∧ W'.cell? ⟨w.heap.size, 7, none⟩ = some (.int .i64 c7) ∧ W'.cell? ⟨w.heap.size, 8, none⟩ = some (.int .i64 c8) ∧ W'.cell? ⟨w.heap.size, 9, none⟩ = some (.int .i64 c9) ∧ W'.cell? ⟨w.heap.size, 10, none⟩ = some (.int .i64 c10)) by
    intro W' hb
    subst eW
    refine ⟨keepA hb ?_, keepA hb ?_, keepA hb ?_, keepA hb ?_, keepA hb ?_, keepA hb ?_, keepA hb ?_, keepA hb ?_, keepA hb ?_, keepA hb ?_, keepA hb ?_⟩ <;> go_simp)
  obtain ⟨d0, d1, d2, d3, d4, d5, d6, d7, d8, d9, d10⟩ := HCS.out W (Below.refl _ _)
  go_enter Tryz.func115, Tryz.ntmps115
  go_wp2_with fail
  refine (HRI.out _).mono ?_
  rintro e w1 ⟨rfl, hb1⟩
  have HB1 := Lib.hid hb1
  clear d0 d1 d2 d3 d4 d5 d6 d7 d8 d9 d10 hb1
  obtain ⟨d0, d1, d2, d3, d4, d5, d6, d7, d8, d9, d10⟩ := HCS.out w1 HB1.out
  go_wp2_with fail
  refine (in_any _ _ _ _).mono ?_
  rintro e w2 ⟨rfl, rfl⟩
  rw [hin0]
  go_wp2_with fail
  refine (in_any _ _ _ _).mono ?_
  rintro e w2 ⟨rfl, rfl⟩
  rw [hin]
  go_wp2_with fail
  refine (HNX.out _).mono ?_
  rintro e w2 ⟨rfl, hb2⟩
  have HB2 := Lib.hid (bt hb2 HB1.out)
  clear d0 d1 d2 d3 d4 d5 d6 d7 d8 d9 d10 hb2
  obtain ⟨d0, d1, d2, d3, d4, d5, d6, d7, d8, d9, d10⟩ := HCS.out w2 HB2.out
  by_cases h : n < q
  · have F := Lib.hid (HU.out.trans (if_pos h))
    go_wp2_with fail
    go_ret2
    exact ⟨by rw [F.out]; rfl, bt HB2.out HB.out⟩
  · have hF := HU.out.trans (if_neg h)
    have e1 : (n - q).tdiv c4 = (n - q) / c4 := Int.tdiv_eq_ediv_of_nonneg (by omega)
    generalize (n - q) / c4 = r at *
    have F := Lib.hid hF
    have hr : -1 ≤ r ∧ r ≤ 1099511627776 := by omega
    clear hF hub
    go_wp2_with fail
    go_ret2
    exact ⟨by rw [F.out]; rfl, bt HB2.out HB.out⟩
set_option maxHeartbeats 4000000 in
set_option maxRecDepth 100000 in
theorem turn_ok (c : Cf) (k : Int) (hc : confOk c) (hk : cnt k) (w : World) :
    Calls Tryz.prog 76 #[.agg (CfM.cfC c).toArray, .int .i64 k] w fun e w' => e = .returned (.int .i64 (nextC c 0 + k * c.c4)) ∧ Below w.heap.size w w' := by
  have HNX := Lib.hid (fun W => RNext_ok c 0 hc (by decide) W)
  have hb := next_bd hc (n := 0) (by decide)
  have hi := cf_in hc
  unfold cnt at hk
  obtain ⟨q, hq⟩ : ∃ q, nextC c 0 = q := ⟨_, rfl⟩
  rw [hq] at hb HNX ⊢
  have hkE : 0 ≤ k * c.c4 ∧ k * c.c4 ≤ 281474976710656 := by
    refine ⟨Int.mul_nonneg (by omega) (by omega), ?_⟩
    have := Int.mul_le_mul hk.2 hi.2.2.2 (by omega) (by omega)
    omega
  clear hc hq
  obtain ⟨c0, c1, c2, c3, c4, c5, c6, c7, c8, c9, c10⟩ := c
  unfold CfM.cfC at HNX ⊢
  dsimp only at HNX hi hb hkE ⊢
  have hw1 : IntKind.i64.wrap (k * c4) = k * c4 := IntWalk.i64_in _ (by omega)
  have hw2 : IntKind.i64.wrap (q + k * c4) = q + k * c4 := IntWalk.i64_in _ (by omega)
  obtain ⟨W, eW⟩ : ∃ W, w.alloc (.cells #[.int .i64 c0, .int .i64 c1, .int .i64 c2, .int .i64 c3, .int .i64 c4, .int .i64 c5, .int .i64 c6, .int .i64 c7, .int .i64 c8, .int .i64 c9, .int .i64 c10] 23) = W := ⟨_, rfl⟩
  have HB := Lib.hid (show Below w.heap.size w W by rw [← eW]; exact below_a1 _ _)
  have HCS := Lib.hid (show ∀ W' : World, Below W.heap.size W W' → (W'.cell? ⟨w.heap.size, 0, none⟩ = some (.int .i64 c0) ∧ W'.cell? ⟨w.heap.size, 1, none⟩ = some (.int .i64 c1) ∧ W'.cell? ⟨w.heap.size, 2, none⟩ = some (.int .i64 c2) ∧ W'.cell? ⟨w.heap.size, 3, none⟩ = some (.int .i64 c3) ∧ W'.cell? ⟨w.heap.size, 4, none⟩ = some (.int .i64 c4) ∧ W'.cell? ⟨w.heap.size, 5, none⟩ = some (.int .i64 c5) ∧ W'.cell? ⟨w.heap.size, 6, none⟩ = some (.int .i64 c6) ∧ W'.cell? ⟨w.heap.size, 7, none⟩ = some (.int .i64 c7) ∧ W'.cell? ⟨w.heap.size, 8, none⟩ = some (.int .i64 c8) ∧ W'.cell? ⟨w.heap.size, 9, none⟩ = some (.int .i64 c9) ∧ W'.cell? ⟨w.heap.size, 10, none⟩ = some (.int .i64 c10)) by
    intro W' hb
    subst eW
    refine ⟨keepA hb ?_, keepA hb ?_, keepA hb ?_, keepA hb ?_, keepA hb ?_, keepA hb ?_, keepA hb ?_, keepA hb ?_, keepA hb ?_, keepA hb ?_, keepA hb ?_⟩ <;> go_simp)
  obtain ⟨d0, d1, d2, d3, d4, d5, d6, d7, d8, d9, d10⟩ := HCS.out W (Below.refl _ _)
  go_enter Tryz.func76, Tryz.ntmps76
  go_wp2_with fail
  refine (HNX.out _).mono ?_
  rintro e w1 ⟨rfl, hb1⟩
  have HB1 := Lib.hid hb1
  clear d0 d1 d2 d3 d4 d5 d6 d7 d8 d9 d10 hb1
  obtain ⟨d0, d1, d2, d3, d4, d5, d6, d7, d8, d9, d10⟩ := HCS.out w1 HB1.out
  go_wp2_with fail
  go_ret
  exact ⟨rfl, bt HB1.out HB.out⟩
end Go.Proofs.YtcaeihfgdlffkaaGreatRRRRDoor.RscZ

/- Single operations whole: a store into a part of a row, an append of one element just built, in a plain region and in one that draws its order. No program is in sight. -/
namespace Go.Proofs.YtcaeihfgdlffkaaGreatRRRRDoor.StpW
set_option linter.unusedVariables false
set_option linter.unusedSimpArgs false
open Go.RowKit Base

section
variable {P : Program}
theorem run_store_part (w : World) (g o : Nat) (ty t : TypeId) (v : Value) (old new : Array Value) (hg : w.heap[g]? = some (.cells old t (0, 0))) (hi : (P.info? ty).map (·.size) = some v.cells.size) (hfit : o + v.cells.size ≤ old.size)
    (h1 : ∀ u ∈ v.cells.toList, u.oneCell' = true) (hnew : old.toList.take o ++ v.cells.toList ++ old.toList.drop (o + v.cells.toList.length) = new.toList) :
    (Instr.storeAt ty (.pointer (some ⟨g, o, none⟩)) v).run P w = .ok () (w.setRow g new) := by
  have h := run_storeCells_at P g o t v.cells.toList 0 old w hg (by simpa using hfit) h1
  simp only [Nat.add_zero] at h
  rw [hnew, Array.toArray_toList] at h
  cases hq : P.info? ty with
  | none => simp [hq] at hi
  | some i =>
    have hs : v.cells.size = i.size := by simp [hq] at hi; omega
    simp only [Instr.storeAt, Instr.sureAddr, Sem.run_bind, Sem.run_pure, Result.andThen_ok]
    simp [storeVar, sizeOf, typeInfo, hq, hs, h]
theorem wp_store_part {op : Oper} {a : Act} {w : World} {K : Act → World → Prop} {Q : Exit → Act → World → Prop} (ty : TypeId) (x y : Operand) (ho : op.op = .store ty x y) (g o : Nat) (v : Value) (hx : a.eval x = .pointer (some ⟨g, o, none⟩)) (hy : a.eval y = v)
    (t : TypeId) (old new : Array Value) (hg : w.heap[g]? = some (.cells old t (0, 0))) (hi : (P.info? ty).map (·.size) = some v.cells.size) (hfit : o + v.cells.size ≤ old.size) (h1 : ∀ u ∈ v.cells.toList, u.oneCell' = true)
    (hnew : old.toList.take o ++ v.cells.toList ++ old.toList.drop (o + v.cells.toList.length) = new.toList) (h : K (a.put op.dst undef) (w.setRow g new)) : op.wp P a w K Q := by
  unfold Oper.wp execOp
  simp only [ho, hx, hy, run_store_part w g o ty t v old new hg hi hfit h1 hnew, Sem.run_bind, Sem.run_pure, Result.andThen_ok]
  exact h
theorem listStore {ops : Array Oper} {rest : List Oper} {op : Oper} {a : Act} {w : World} {Q : Exit → Act → World → Prop} (hgd : op.guard = none) (ty : TypeId) (x y : Operand) (ho : op.op = .store ty x y) (g o : Nat) (v : Value) (hx : a.eval x = .pointer (some ⟨g, o, none⟩)) (hy : a.eval y = v)
    (t : TypeId) (old new : Array Value) (hg : w.heap[g]? = some (.cells old t (0, 0))) (hi : (P.info? ty).map (·.size) = some v.cells.size) (hfit : o + v.cells.size ≤ old.size) (h1 : ∀ u ∈ v.cells.toList, u.oneCell' = true)
    (hnew : old.toList.take o ++ v.cells.toList ++ old.toList.drop (o + v.cells.toList.length) = new.toList) (h : wpList P ops Q rest (a.put op.dst undef) (w.setRow g new)) : wpList P ops Q (op :: rest) a w :=
  wpList_plain hgd fun _ hK => wp_store_part ty x y ho g o v hx hy t old new hg hi hfit h1 hnew (hK _ _ h)
theorem stepStore {ops : Array Oper} {op : Oper} {a : Act} {w : World} {K : Act → World → Prop} {Q : Exit → Act → World → Prop} {E' : Prop} (hgd : op.guard = none) (ty : TypeId) (x y : Operand) (ho : op.op = .store ty x y) (g o : Nat) (v : Value) (hx : a.eval x = .pointer (some ⟨g, o, none⟩)) (hy : a.eval y = v)
    (t : TypeId) (old new : Array Value) (hg : w.heap[g]? = some (.cells old t (0, 0))) (hi : (P.info? ty).map (·.size) = some v.cells.size) (hfit : o + v.cells.size ≤ old.size) (h1 : ∀ u ∈ v.cells.toList, u.oneCell' = true)
    (hnew : old.toList.take o ++ v.cells.toList ++ old.toList.drop (o + v.cells.toList.length) = new.toList) (h : K (a.put op.dst undef) (w.setRow g new)) :
    if Region.wanted op (yielded ops a.tmps) = true then Oper.wp P op a w K Q else E' := by
  rw [if_pos (by unfold Region.wanted; rw [hgd])]
  exact wp_store_part ty x y ho g o v hx hy t old new hg hi hfit h1 hnew h
/-- 's = append(s, x)' in a region that draws its order, the element just built -/
theorem stepA {ops : Array Oper} {o : Oper} {a : Act} {K : Act → World → Prop} {Q : Exit → Act → World → Prop} {E' : Prop} (wr : World) (cs : Array Value) (hgd : o.guard = none) (s x : Operand) (t : TypeId)
    (ho : o.op = .call { callee := .builtin .append, args := #[s, x], argTypes := #[t, t] })
    {e : TypeId} {z : Value} {size bytes : Nat} (E : Elt P t e z size bytes) (base : Nat) (A : Option Addr) (n cap : Nat) (xs : List Value) (hs : a.eval s = .slice A n cap)
    (hown : wr.ownsRow base e size (.slice A n cap) n xs) (hx : a.eval x = .slice (some ⟨wr.heap.size, 0, none⟩) 1 1) (hcs : cs.size = size) (h1 : ∀ u ∈ cs.toList, u.oneCell' = true)
    (hn : n < 1073741824) (hbase : base ≤ wr.heap.size)
    (h : ∀ A' cap' w', App wr w' base e size A n cap A' (n + 1) cap' (xs ++ cs.toList) → K (a.put o.dst (.slice A' (n + 1) cap')) w') :
    if Region.wanted o (yielded ops a.tmps) = true then Oper.wp P o a (wr.alloc (.cells cs e)) K Q else E' := by
  obtain ⟨ht, h0, hby, i, hi, hz, hsz, hbs, hzs⟩ := E
  refine step_append_lies (w := wr.alloc (.cells cs e)) hgd s x t ho base e i z size bytes ht hi hz hsz hbs hzs h0 (.slice A n cap) n xs hs (hown.alloc _) ⟨wr.heap.size, 0, none⟩ 1 1 cs.toList hx (by simp [hcs])
    (World.news_of_block (heap_alloc_new wr _)) h1 (by omega) (by unfold maxLen; omega) ?_ (by show base ≤ (wr.alloc (.cells cs e)).heap.size; simp; omega) (wr.heap.size + 1) (by show (wr.alloc (.cells cs e)).heap.size = _; simp) ?_
  · have h2 : (n + 1) * bytes ≤ (n + 1) * 131072 := Nat.mul_le_mul_left _ hby
    omega
  · intro g cp w' own hg hor hlt
    refine h _ _ _ ⟨own, ?_, ?_, ?_⟩
    · exact ⟨hg.os, hg.tape, hg.output, Nat.le_trans (by show wr.heap.size ≤ (wr.alloc (.cells cs e)).heap.size; simp) hg.size, fun k hk hne => (hg.block k (by show k < (wr.alloc (.cells cs e)).heap.size; simp; omega) hne).trans (Below.heap_alloc wr _ k hk)⟩
    · rcases hor with e1 | e1
      · exact .inl (by rw [e1]; rfl)
      · exact .inr (by subst e1; simp [Value.ownBlock])
    · exact ((Below.refl _ _).alloc hbase _).grown hg (by show base ≤ (wr.alloc (.cells cs e)).heap.size; simp; omega) (fun k hk => (hown.lt k hk).1)
end
theorem row_heap {w : World} {g : Nat} {cs cs' : Array Value} {t : TypeId} (h : w.heap[g]? = some (.cells cs t (0, 0))) : (w.setRow g cs').heap[g]? = some (.cells cs' t (0, 0)) := setRow_heap w g cs cs' t (0, 0) h
theorem row_other {w : World} {g k : Nat} {cs' : Array Value} (h : k ≠ g) : (w.setRow g cs').heap[k]? = w.heap[k]? := by
  unfold World.setRow
  simp [Array.getElem?_modify, Ne.symm h]
theorem row_size (w : World) (g : Nat) (cs' : Array Value) : (w.setRow g cs').heap.size = w.heap.size := by
  unfold World.setRow; simp
theorem below_row {w0 w : World} {B g : Nat} {cs' : Array Value} (h : Below B w0 w) (hg : B ≤ g) : Below B w0 (w.setRow g cs') :=
  ⟨h.os, h.tape, h.output, by rw [row_size]; exact h.size, fun k hk => (row_other (by omega)).trans (h.block k hk)⟩
end Go.Proofs.YtcaeihfgdlffkaaGreatRRRRDoor.StpW
