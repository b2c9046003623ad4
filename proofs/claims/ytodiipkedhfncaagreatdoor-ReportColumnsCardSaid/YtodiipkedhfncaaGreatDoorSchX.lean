/- sched.Right: is a way to work right? (lines of SchW). The turns: sched.next, right, Next, Turns; num.Ceil. -/
import Derived.Test.YtodiipkedhfncaaGreatDoorCfM
import Derived.Test.YtodiipkedhfncaaGreatDoorRows
import Derived.Laws.Rows
import Derived.Laws.CopyOwn
import Derived.Deep.QuietTactic
namespace Go.Proofs.YtodiipkedhfncaaGreatDoor.SchX
set_option linter.unusedVariables false
set_option linter.unusedSimpArgs false
open Go.RowKit Base SeqM CfM

theorem take_next' {α : Type} {l : List α} {k : Nat} {x : α} (h : l[k]? = some x) : l.take (k + 1) = l.take k ++ [x] := SeqM.take_next h
abbrev Row3 := Int × Int × Int
def okRow (r : Row3) : Prop := r.2.1 ≤ r.1 ∧ r.1 ≤ r.2.2
def rowV (r : Row3) : Value := .agg #[.int .i64 r.1, .int .i64 r.2.1, .int .i64 r.2.2]
def SRel (rows : List Row3) (w : World) (i : Value) (wr : World) : Prop := ∃ k : Nat, k ≤ 11 ∧ i = .int .i64 k ∧ (∀ r ∈ rows.take k, okRow r) ∧ Below w.heap.size w wr
theorem rows_conf (c : Cf) (mn mx : Int) (hmn : (if c.c1 < 64 then c.c1 else 64) = mn) (hmx : (if c.c7 < 1 then 1 else c.c7) = mx) :
    (∀ r ∈ [(c.c0, 1, 8), (c.c1, 2, 256), (c.c2, 1, 16), (c.c3, 2, mn), (c.c4, 1, 256), (c.c5, 1, 2), (c.c7, 2, 1000), (c.c6, 1, mx - 1), (c.c8, 1, 64), (c.c9, 1, 64), (c.c10, 1, 256)], okRow r) ↔ confOk c := by
  simp only [List.forall_mem_cons, List.not_mem_nil, false_imp_iff, implies_true, and_true, okRow, confOk]
  split at hmn <;> split at hmx <;> omega
theorem alloc2_new (w : World) (o o' : Obj) : ((w.alloc o).alloc o').heap[w.heap.size + 1]? = some o' := by
  have := heap_alloc_new (w.alloc o) o'
  simpa using this
theorem all_one (l : List Value) (h : l.all (·.oneCell') = true) : l.toArray.all (·.oneCell') = true := by simpa using h
theorem idx_ok (c0 c1 c2 c3 c4 c5 c6 c7 c8 c9 c10 mn my : Int) : ∀ k : Nat, k < 11 → ∃ r, ([(c0, 1, 8), (c1, 2, 256), (c2, 1, 16), (c3, 2, mn), (c4, 1, 256), (c5, 1, 2), (c7, 2, 1000), (c6, 1, my), (c8, 1, 64), (c9, 1, 64), (c10, 1, 256)] : List Row3)[k]? = some r ∧ ∀ W, (Instr.index 150 (Value.agg #[.int .i64 c0, .int .i64 1, .int .i64 8, .int .i64 c1, .int .i64 2, .int .i64 256, .int .i64 c2, .int .i64 1, .int .i64 16, .int .i64 c3, .int .i64 2, .int .i64 mn, .int .i64 c4, .int .i64 1, .int .i64 256, .int .i64 c5, .int .i64 1, .int .i64 2, .int .i64 c7, .int .i64 2, .int .i64 1000, .int .i64 c6, .int .i64 1, .int .i64 my, .int .i64 c8, .int .i64 1, .int .i64 64, .int .i64 c9, .int .i64 1, .int .i64 64, .int .i64 c10, .int .i64 1, .int .i64 256]) (.int .i64 (k : Int))).run Tryz.prog W = .ok (rowV r) W := by
  intro k hk
  match k, hk with
  | 0, _ => exact ⟨_, rfl, fun W => by as_aux_lemma => kernel_rfl⟩
  | 1, _ => exact ⟨_, rfl, fun W => by as_aux_lemma => kernel_rfl⟩
  | 2, _ => exact ⟨_, rfl, fun W => by as_aux_lemma => kernel_rfl⟩
  | 3, _ => exact ⟨_, rfl, fun W => by as_aux_lemma => kernel_rfl⟩
  | 4, _ => exact ⟨_, rfl, fun W => by as_aux_lemma => kernel_rfl⟩
  | 5, _ => exact ⟨_, rfl, fun W => by as_aux_lemma => kernel_rfl⟩
  | 6, _ => exact ⟨_, rfl, fun W => by as_aux_lemma => kernel_rfl⟩
  | 7, _ => exact ⟨_, rfl, fun W => by as_aux_lemma => kernel_rfl⟩
  | 8, _ => exact ⟨_, rfl, fun W => by as_aux_lemma => kernel_rfl⟩
  | 9, _ => exact ⟨_, rfl, fun W => by as_aux_lemma => kernel_rfl⟩
  | 10, _ => exact ⟨_, rfl, fun W => by as_aux_lemma => kernel_rfl⟩
set_option maxHeartbeats 8000000 in
set_option maxRecDepth 100000 in
theorem SRight_any (c : Cf) (hb7 : c.c7 ≤ 9223372036854775807) (w : World) :
    Calls Tryz.prog 73 #[.agg (CfM.cfC c).toArray] w fun e w' => e = .returned (.bool (confB c)) ∧ Below w.heap.size w w' := by
  obtain ⟨mn, hmn⟩ : ∃ mn, (if c.c1 < 64 then c.c1 else 64) = mn := ⟨_, rfl⟩
  obtain ⟨mx, hmx⟩ : ∃ mx, (if c.c7 < 1 then 1 else c.c7) = mx := ⟨_, rfl⟩
  have HRW := Lib.hid (rows_conf c mn mx hmn hmx)
  have hm1 : 1 ≤ mx := by split at hmx <;> omega
  have hm2 : mx ≤ 9223372036854775807 := by split at hmx <;> omega
  obtain ⟨c0, c1, c2, c3, c4, c5, c6, c7, c8, c9, c10⟩ := c
  unfold CfM.cfC
  dsimp only at HRW hmn hmx hb7 ⊢
  go_enter Tryz.func73, Tryz.ntmps73
  go_wp2_with (first
    | (refine (id ?_ : wpList _ _ _ (⟨none, .store _ _ _, _, _, _, _⟩ :: _) _ _)
       refine wpList_store_row rfl 150 (.tmp 3) (.tmp 49) rfl (w.heap.size + 1) _ (by rfl) (by rfl) 150 _ (alloc2_new w _ _) (by kernel_rfl) (by rfl) (all_one _ (by rfl)) ?_
       generalize hW2 : World.setRow _ _ _ = W2
       have hg : W2.heap[w.heap.size + 1]? = some (.cells #[.int .i64 c0, .int .i64 1, .int .i64 8, .int .i64 c1, .int .i64 2, .int .i64 256, .int .i64 c2, .int .i64 1, .int .i64 16, .int .i64 c3, .int .i64 2, .int .i64 mn, .int .i64 c4, .int .i64 1, .int .i64 256, .int .i64 c5, .int .i64 1, .int .i64 2, .int .i64 c7, .int .i64 2, .int .i64 1000, .int .i64 c6, .int .i64 1, .int .i64 (mx - 1), .int .i64 c8, .int .i64 1, .int .i64 64, .int .i64 c9, .int .i64 1, .int .i64 64, .int .i64 c10, .int .i64 1, .int .i64 256] 150 (0, 0)) := by rw [← hW2]; exact setRow_heap _ _ _ _ _ _ (alloc2_new w _ _)
       have hb : Below w.heap.size w W2 := by rw [← hW2]; exact below_setRow (below_a2 w _ _) (Nat.le_succ _) _
       have HB2 := Lib.hid hb
       have HG2 := Lib.hid hg
       clear hb hg hW2)
    | (refine (id ?_ : wpList _ _ _ (⟨some 50, .load _ _, _, _, _, _⟩ :: _) _ _)
       refine wpList_load_row rfl 150 (.tmp 3) rfl (w.heap.size + 1) (by rfl) _ _ _ (.array 11 149) HG2.out (by kernel_rfl) rfl (by kernel_rfl) ?_))
  obtain ⟨rows, hrows⟩ : ∃ rows : List Row3, [(c0, 1, 8), (c1, 2, 256), (c2, 1, 16), (c3, 2, mn), (c4, 1, 256), (c5, 1, 2), (c7, 2, 1000), (c6, 1, mx - 1), (c8, 1, 64), (c9, 1, 64), (c10, 1, 256)] = rows := ⟨_, rfl⟩
  obtain ⟨rv, hrv⟩ : ∃ rv : Value, Value.agg #[.int .i64 c0, .int .i64 1, .int .i64 8, .int .i64 c1, .int .i64 2, .int .i64 256, .int .i64 c2, .int .i64 1, .int .i64 16, .int .i64 c3, .int .i64 2, .int .i64 mn, .int .i64 c4, .int .i64 1, .int .i64 256, .int .i64 c5, .int .i64 1, .int .i64 2, .int .i64 c7, .int .i64 2, .int .i64 1000, .int .i64 c6, .int .i64 1, .int .i64 (mx - 1), .int .i64 c8, .int .i64 1, .int .i64 64, .int .i64 c9, .int .i64 1, .int .i64 64, .int .i64 c10, .int .i64 1, .int .i64 256] = rv := ⟨_, rfl⟩
  have HIDX := Lib.hid (idx_ok c0 c1 c2 c3 c4 c5 c6 c7 c8 c9 c10 mn (mx - 1))
  rw [hrows, hrv] at HIDX
  rw [hrows] at HRW
  have HL := Lib.hid (show rows.length = 11 by rw [← hrows]; rfl)
  rw [hrv]
  have H0 := Lib.hid (show SRel rows w (.int .i64 0) W2 from ⟨0, by omega, rfl, by simp, HB2.out⟩)
  clear hrv hrows hmn hmx hm1 hm2 hb7
  go_loopw [51] (fun i wr => SRel rows w i wr) (fun i _ => 11 - (intOf i).toNat)
  case atStart => exact H0.out
  case round =>
    obtain ⟨k, hk, rfl, hr, hb⟩ := hrel
    have HR := Lib.hid hr
    have HB := Lib.hid hb
    clear hr hb H0
    by_cases hlt : k < 11
    · obtain ⟨⟨n, lo, hi⟩, hx, hix⟩ := HIDX.out k hlt
      unfold rowV at hix
      dsimp only at hix
      have HX := Lib.hid hx
      clear hx
      have HNO := Lib.hid (fun (hn : ¬ okRow (n, lo, hi)) => conf_no (c := ⟨c0, c1, c2, c3, c4, c5, c6, c7, c8, c9, c10⟩) (fun h => hn (HRW.out.2 h _ (List.mem_of_getElem? HX.out))))
      have HBX := Lib.hid (HB.out.trans ((below_a1 wr (.cells #[.int .i64 n, .int .i64 lo, .int .i64 hi] 149)).mono HB.out.size))
      by_cases h1 : n < lo
      · have F := Lib.hid (HNO.out (fun h => by unfold okRow at h; dsimp only at h; omega))
        have hd : decide (n < lo) = true := decide_eq_true h1
        clear h1
        go_wp2
        go_quiet (fail)
        go_wp2
        go_ret
        exact ⟨by rw [F.out]; rfl, below_drewN HBX.out _⟩
      · have hd : decide (n < lo) = false := decide_eq_false h1
        by_cases h2 : hi < n
        · have F := Lib.hid (HNO.out (fun h => by unfold okRow at h; dsimp only at h; omega))
          have hd2 : decide (hi < n) = true := decide_eq_true h2
          clear h1 h2
          go_wp2
          go_quiet (fail)
          go_wp2
          go_ret
          exact ⟨by rw [F.out]; rfl, below_drewN HBX.out _⟩
        · have hd2 : decide (hi < n) = false := decide_eq_false h2
          have HT := Lib.hid (show ∀ r ∈ rows.take (k + 1), okRow r by
            rw [take_next' HX.out]
            intro r hr
            rcases List.mem_append.1 hr with hr | hr
            · exact HR.out r hr
            · rw [List.mem_singleton.1 hr]; unfold okRow; dsimp only; omega)
          clear h1 h2
          go_wp2
          go_quiet (fail)
          go_wp2
          exact ⟨⟨k + 1, by omega, by go_num, HT.out, below_drewN HBX.out _⟩, by simp [intOf]; omega⟩
    · have F := Lib.hid (conf_yes (c := ⟨c0, c1, c2, c3, c4, c5, c6, c7, c8, c9, c10⟩) (HRW.out.1 (by
        have := HR.out
        rw [List.take_of_length_le (by rw [HL.out]; omega)] at this
        exact this)))
      go_wp2
      go_ret
      exact ⟨by rw [F.out]; rfl, HB.out⟩

theorem Ceil_any (a b : Int) (w : World) (hb : 1 ≤ b) (hb1 : b ≤ 4611686018427387904) (ha : 0 ≤ a ∧ a ≤ 4611686018427387904) :
    Calls Tryz.prog 133 #[.int .i64 a, .int .i64 b] w fun e w' => e = .returned (.tuple #[.int .i64 (ceilC a b), .int .i64 0]) ∧ w = w' := by
  have hc := ceil_code (a := a) hb
  have h1 := Int.ediv_le_self (a := a) b ha.1
  have h2 : 0 ≤ a / b := Int.ediv_nonneg ha.1 (by omega)
  have e1 : a.tdiv b = a / b := Int.tdiv_eq_ediv_of_nonneg ha.1
  have e2 : a.tmod b = a % b := Int.tmod_eq_emod_of_nonneg ha.1
  have hb0 : (b == 0) = false := by simpa using (by omega : b ≠ 0)
  have hbm : (b == -1) = false := by simpa using (by omega : b ≠ -1)
  have hlt : decide (b < 1) = false := decide_eq_false (by omega)
  generalize a / b = q at *
  generalize a % b = r at *
  by_cases hr : 0 < r
  · rw [if_pos hr] at hc
    rw [hc]
    go_enter Tryz.func133, Tryz.ntmps133
    go_wp2
    go_ret2
    exact ⟨rfl, rfl⟩
  · rw [if_neg hr, Int.add_zero] at hc
    rw [hc]
    go_enter Tryz.func133, Tryz.ntmps133
    go_wp2
    go_ret2
    exact ⟨rfl, rfl⟩
end Go.Proofs.YtodiipkedhfncaaGreatDoor.SchX
