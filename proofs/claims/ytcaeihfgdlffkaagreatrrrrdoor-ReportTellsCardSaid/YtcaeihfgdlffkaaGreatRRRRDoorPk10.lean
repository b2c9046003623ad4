/- A long sum with a number more, walked; num.Sum (printed by mklng.py). -/
import Derived.Test.YtcaeihfgdlffkaaGreatRRRRDoorPk09
import Derived.Test.YtcaeihfgdlffkaaGreatRRRRDoorPk07
namespace Go.Proofs.YtcaeihfgdlffkaaGreatRRRRDoor.LnpW
set_option linter.unusedVariables false
set_option linter.unusedSimpArgs false
open Go.RowKit Base BigZ RptN RptM RptC WidX SeqM LngW HzW RotW

/-- the word of a number at a place -/
def wdJ (z : Int) : Nat → Int
  | 0 => wd0 z
  | 1 => wd1 z
  | _ => wd2 z
def crJ (a b : Int) : Nat → Int
  | 0 => 0
  | j + 1 => (wdJ a j + wdJ b j + crJ a b j) / 18446744073709551616
theorem wdJ_range (z : Int) (j : Nat) : 0 ≤ wdJ z j ∧ wdJ z j ≤ 18446744073709551615 := by
  have h := wd_range z
  unfold wdJ
  split <;> omega
theorem crJ_range (a b : Int) : ∀ j, 0 ≤ crJ a b j ∧ crJ a b j ≤ 1
  | 0 => by simp [crJ]
  | j + 1 => by
    have ih := crJ_range a b j
    have h1 := wdJ_range a j
    have h2 := wdJ_range b j
    rw [crJ]; omega
theorem add_wdJ (a b : Int) (j : Nat) (hj : j < 3) : wdJ (a + b) j = (wdJ a j + wdJ b j + crJ a b j) % 18446744073709551616 := by
  have e1 : crJ a b 1 = cr0 a b := by simp [crJ, wdJ, cr0]
  have e2 : crJ a b 2 = cr1 a b := by rw [crJ, e1]; rfl
  match j, hj with
  | 0, _ => rw [show crJ a b 0 = 0 from rfl, Int.add_zero]; exact add_wd0 a b
  | 1, _ => rw [e1]; exact add_wd1 a b
  | 2, _ => rw [e2]; exact add_wd2 a b
theorem cell_far1 {w : World} {b o g i : Nat} {v x : Value} (hne : b ≠ g) (h : w.cell? ⟨b, o, none⟩ = some v) : (w.setCell ⟨g, i, none⟩ x).cell? ⟨b, o, none⟩ = some v := by
  rw [World.cell?_setCell_other (h := fun e => hne (by injection e with e1 _; exact e1.symm))]; exact h
def PlRel (z n : Int) (B : Nat) (W : World) (c i : Value) (wr : World) : Prop := ∃ k : Nat, k ≤ 3 ∧ i = .int .i64 (k : Int) ∧ c = .int .u64 (crJ z n k) ∧
  (∀ j, j < 3 → wr.cell? ⟨B + 3, j, none⟩ = some (.int .u64 (if j < k then wdJ (z + n) j else 0)) ∧ wr.frozen? ⟨B + 3, j, none⟩ = false) ∧
  (∀ j, j < 3 → wr.cell? ⟨B, j, none⟩ = some (.int .u64 (wdJ z j))) ∧ (∀ j, j < 3 → wr.cell? ⟨B + 2, j, none⟩ = some (.int .u64 (wdJ n j))) ∧
  (∀ j, j < 3 → wr.cell? ⟨B + 1, j, none⟩ = some (.int .u64 0) ∧ wr.frozen? ⟨B + 1, j, none⟩ = false) ∧ Below B W wr ∧ B + 3 < wr.heap.size
set_option maxHeartbeats 4000000 in
theorem plus_pos (z n : Int) (h0 : 0 ≤ n) (h1 : n < 18446744073709551616) (w : World) :
    Calls Tryz.prog 98 #[LV z, .int .u64 0, .int .u64 n, .bool false] w fun e w' => e = .returned (LV (z + n)) ∧ Below w.heap.size w w' := by
  have HZ := Lib.hid (And.intro (show wdJ z 0 = wd0 z from rfl) (And.intro (show wdJ z 1 = wd1 z from rfl) (show wdJ z 2 = wd2 z from rfl)))
  unfold LV
  generalize e0 : wd0 z = z0
  generalize e1 : wd1 z = z1
  generalize e2 : wd2 z = z2
  have HN := Lib.hid (pos_wd n h0 h1)
  go_enter Tryz.func98, Tryz.ntmps98
  go_wp2
  go_loopw [12, 39] (fun c i wr => PlRel z n w.heap.size w c i wr) (fun _ i _ => 3 - (intOf i).toNat)
  case atStart =>
    obtain ⟨a0, a1, a2⟩ := HN.out
    refine ⟨0, by omega, rfl, rfl, fun j hj => ?_, fun j hj => ?_, fun j hj => ?_, fun j hj => ?_, ?_, ?_⟩
    · rw [if_neg (by omega)]
      match j, hj with
      | 0, _ => constructor <;> go_simp
      | 1, _ => constructor <;> go_simp
      | 2, _ => constructor <;> go_simp
    · match j, hj with
      | 0, _ => rw [HZ.out.1, e0]; go_simp
      | 1, _ => rw [HZ.out.2.1, e1]; go_simp
      | 2, _ => rw [HZ.out.2.2, e2]; go_simp
    · match j, hj with
      | 0, _ => rw [show wdJ n 0 = wd0 n from rfl, a0]; go_simp
      | 1, _ => rw [show wdJ n 1 = wd1 n from rfl, a1]; go_simp
      | 2, _ => rw [show wdJ n 2 = wd2 n from rfl, a2]; go_simp
    · match j, hj with
      | 0, _ => constructor <;> go_simp
      | 1, _ => constructor <;> go_simp
      | 2, _ => constructor <;> go_simp
    · exact (((below_a1 w _).alloc (by simp) _).alloc (by simp; omega) _).alloc (by simp; omega) _
    · go_simp
  case round =>
    obtain ⟨k, hk, rfl, rfl, hO, hS, hA, hR, hb, hlt4⟩ := hrel
    by_cases hlt : k < 3
    · have C1 := Lib.hid (hS k hlt)
      have C2 := Lib.hid (hA k hlt)
      have C3 := Lib.hid (hO k hlt)
      have HP := Lib.hid (And.intro hO (And.intro hS (And.intro hA (And.intro hR (And.intro hb hlt4)))))
      have hw := add_wdJ z n k hlt
      have hc := crJ_range z n k
      have hz := wdJ_range z k
      have hn := wdJ_range n k
      have HCS := Lib.hid (show crJ z n (k + 1) = (wdJ z k + wdJ n k + crJ z n k) / 18446744073709551616 from rfl)
      have HAD := Lib.hid (fun W => add64 (wdJ z k) (wdJ n k) (crJ z n k) hz.1 hn.1 hc.1 hc.2 W)
      have HW := Lib.hid hw
      clear hO hS hA hR hb hw
      generalize wdJ z k = za at *
      generalize wdJ n k = na at *
      generalize crJ z n k = ca at *
      go_wp2_with fail
      refine regionZ 14 (fun w' => w'.cell? ⟨w.heap.size, k, none⟩ = some (.int .u64 za) ∧ w'.cell? ⟨w.heap.size + 2, k, none⟩ = some (.int .u64 na)) (by kernel_rfl) (⟨C1.out, C2.out⟩) (fun hH => ?_)
      refine takeZ 0 (v := ?_) (gi rfl) (by kernel_rfl) (fun _ _ _ h => h) hH (.inl ⟨rfl, fun w hW => ?_⟩) ?_
      rotate_left
      · (go_simp; try with_reducible rfl)
      try simp only [Act.put, List.setIfInBounds_toArray, List.set_cons_zero, List.set_cons_succ]
      refine takeZ 1 (v := ?_) (gi rfl) (by kernel_rfl) (fun _ _ _ h => h) hH (.inl ⟨rfl, fun w hW => ?_⟩) ?_
      rotate_left
      · (go_simp; try with_reducible rfl)
      try simp only [Act.put, List.setIfInBounds_toArray, List.set_cons_zero, List.set_cons_succ]
      refine takeZ 2 (v := ?_) (gi rfl) (by kernel_rfl) (fun _ _ _ h => h) hH (.inl ⟨rfl, fun w hW => ?_⟩) ?_
      rotate_left
      · (go_simp; try with_reducible rfl)
      try simp only [Act.put, List.setIfInBounds_toArray, List.set_cons_zero, List.set_cons_succ]
      refine takeZ 3 (v := ?_) (gi rfl) (by kernel_rfl) (fun _ _ _ h => h) hH (.inl ⟨rfl, fun w hW => ?_⟩) ?_
      rotate_left
      · (obtain ⟨hW1, hW2⟩ := hW; go_simp; try with_reducible rfl)
      try simp only [Act.put, List.setIfInBounds_toArray, List.set_cons_zero, List.set_cons_succ]
      refine takeZ 4 (v := ?_) (gi rfl) (by kernel_rfl) (fun _ _ _ h => h) hH (.inl ⟨rfl, fun w hW => ?_⟩) ?_
      rotate_left
      · (go_simp; try with_reducible rfl)
      try simp only [Act.put, List.setIfInBounds_toArray, List.set_cons_zero, List.set_cons_succ]
      refine takeZ 5 (v := ?_) (gi rfl) (by kernel_rfl) (fun _ _ _ h => h) hH (.inl ⟨rfl, fun w hW => ?_⟩) ?_
      rotate_left
      · (go_simp; try with_reducible rfl)
      try simp only [Act.put, List.setIfInBounds_toArray, List.set_cons_zero, List.set_cons_succ]
      refine takeZ 6 (v := ?_) (gi rfl) (by kernel_rfl) (fun _ _ _ h => h) hH (.inl ⟨rfl, fun w hW => ?_⟩) ?_
      rotate_left
      · (obtain ⟨hW1, hW2⟩ := hW; go_simp; try with_reducible rfl)
      try simp only [Act.put, List.setIfInBounds_toArray, List.set_cons_zero, List.set_cons_succ]
      refine takeZ 7 (v := ?_) (gi rfl) (by kernel_rfl) (fun _ _ _ h => h) hH (.inl ⟨rfl, fun w hW => ?_⟩) ?_
      rotate_left
      · (go_simp; try with_reducible rfl)
      try simp only [Act.put, List.setIfInBounds_toArray, List.set_cons_zero, List.set_cons_succ]
      refine oneZ 8 (by kernel_rfl) (gi rfl) (fun K hK => ?_)
      try simp only [Act.put, List.setIfInBounds_toArray, List.set_cons_zero, List.set_cons_succ]
      go_simp
      simp only [HAD.out]
      go_simp
      refine hK.out _ _ (fun _ => ⟨C1.out, C2.out⟩) (fun hH => ?_)
      replace hH := hH (by decide)
      clear hK K
      try simp only [Act.put, List.setIfInBounds_toArray, List.set_cons_zero, List.set_cons_succ]
      refine takeZ 9 (v := ?_) (gi rfl) (by kernel_rfl) (fun _ _ _ h => h) hH (.inl ⟨rfl, fun w hW => ?_⟩) ?_
      rotate_left
      · (go_simp; try with_reducible rfl)
      try simp only [Act.put, List.setIfInBounds_toArray, List.set_cons_zero, List.set_cons_succ]
      refine takeZ 10 (v := ?_) (gi rfl) (by kernel_rfl) (fun _ _ _ h => h) hH (.inl ⟨rfl, fun w hW => ?_⟩) ?_
      rotate_left
      · (go_simp; try with_reducible rfl)
      try simp only [Act.put, List.setIfInBounds_toArray, List.set_cons_zero, List.set_cons_succ]
      refine takeZ 11 (v := ?_) (gi rfl) (by kernel_rfl) (fun _ _ _ h => h) hH (.inl ⟨rfl, fun w hW => ?_⟩) ?_
      rotate_left
      · (go_simp; try with_reducible rfl)
      try simp only [Act.put, List.setIfInBounds_toArray, List.set_cons_zero, List.set_cons_succ]
      refine takeZ 12 (v := ?_) (gi rfl) (by kernel_rfl) (fun _ _ _ h => h) hH (.inl ⟨rfl, fun w hW => ?_⟩) ?_
      rotate_left
      · (go_simp; try with_reducible rfl)
      try simp only [Act.put, List.setIfInBounds_toArray, List.set_cons_zero, List.set_cons_succ]
      obtain ⟨c3, f3⟩ := C3.out
      rw [if_neg (Nat.lt_irrefl k)] at c3
      refine oneZ 13 (by kernel_rfl) (gi rfl) (fun K hK => ?_)
      try simp only [Act.put, List.setIfInBounds_toArray, List.set_cons_zero, List.set_cons_succ]
      have c3d : wr.drew.cell? ⟨w.heap.size + 3, k, none⟩ = some (.int .u64 0) := c3
      have f3d : wr.drew.frozen? ⟨w.heap.size + 3, k, none⟩ = false := f3
      go_simp
      refine hK.out _ _ (fun _ => ⟨cell_far1 (by omega) C1.out, cell_far1 (by omega) C2.out⟩) (fun hH => ?_)
      replace hH := hH (by decide)
      clear hK K
      try simp only [Act.put, List.setIfInBounds_toArray, List.set_cons_zero, List.set_cons_succ]
      refine yieldZ 14 (v := ?_) (by kernel_rfl) (gi rfl) hH (.inl ⟨rfl, fun w hW => ?_⟩) ?_
      rotate_left
      · (go_simp; try with_reducible rfl)
      try simp only [Act.put, List.setIfInBounds_toArray, List.set_cons_zero, List.set_cons_succ]
      refine doneZ (by kernel_rfl) ?_ _
      clear hH
      go_wp2_with fail
      obtain ⟨hO, hS, hA, hR, hb, hl⟩ := HP.out
      refine ⟨⟨k + 1, by omega, by go_num, by rw [HCS.out], fun j hj => ?_, fun j hj => cell_far1 (by omega) (hS j hj), fun j hj => cell_far1 (by omega) (hA j hj), fun j hj => ⟨cell_far1 (by omega) (hR j hj).1, by show (World.setCell wr _ _).frozen? _ = _; rw [World.frozen?_setCell]; exact (hR j hj).2⟩, (hb.drew).setCell (p := ⟨w.heap.size + 3, k, none⟩) (by show w.heap.size ≤ w.heap.size + 3; omega) _, by simpa using hl⟩, by simp [intOf]; omega⟩
      refine ⟨?_, by show (World.setCell wr _ _).frozen? _ = _; rw [World.frozen?_setCell]; exact (hO j hj).2⟩
      show (World.setCell wr _ _).cell? _ = _
      by_cases hjk : j = k
      · subst hjk
        rw [if_pos (by omega), HW.out]
        exact World.cell?_setCell_same' _ _ _ (by rw [show wr.cell? _ = _ from (hO j hj).1]; rfl)
      · rw [World.cell?_setCell_other (h := fun e => hjk (by injection e with _ e2; exact e2.symm))]
        have h9 := (hO j hj).1
        by_cases hjl : j < k
        · rw [if_pos (by omega)]; rw [if_pos hjl] at h9; exact h9
        · rw [if_neg (by omega)]; rw [if_neg hjl] at h9; exact h9
    · obtain rfl : k = 3 := by omega
      have o0 := (hO 0 (by omega)).1
      have o1 := (hO 1 (by omega)).1
      have o2 := (hO 2 (by omega)).1
      rw [if_pos (by omega)] at o0 o1 o2
      obtain ⟨r0, f0⟩ := hR 0 (by omega)
      obtain ⟨r1, f1⟩ := hR 1 (by omega)
      obtain ⟨r2, f2⟩ := hR 2 (by omega)
      have HB := Lib.hid hb
      have E := Lib.hid (And.intro (show wd0 (z + n) = wdJ (z + n) 0 from rfl) (And.intro (show wd1 (z + n) = wdJ (z + n) 1 from rfl) (show wd2 (z + n) = wdJ (z + n) 2 from rfl)))
      generalize wdJ (z + n) 0 = q0 at *
      generalize wdJ (z + n) 1 = q1 at *
      generalize wdJ (z + n) 2 = q2 at *
      clear hO hS hA hR hb
      go_wp2
      refine bodyPost_ret (v := .agg #[.int .u64 q0, .int .u64 q1, .int .u64 q2]) (by simp [results, Tryz.results98, go_sem, *]) rfl ?_
      refine ⟨by rw [E.out.1, E.out.2.1, E.out.2.2], ?_⟩
      exact ((HB.out.setCell (p := ⟨w.heap.size + 1, 0, none⟩) (by show w.heap.size ≤ w.heap.size + 1; omega) _).setCell (p := ⟨w.heap.size + 1, 1, none⟩) (by show w.heap.size ≤ w.heap.size + 1; omega) _).setCell (p := ⟨w.heap.size + 1, 2, none⟩) (by show w.heap.size ≤ w.heap.size + 1; omega) _
set_option maxRecDepth 100000 in
set_option maxHeartbeats 4000000 in
theorem plus_neg (z n : Int) (m : Int) (hn : n = -m) (h0 : 0 ≤ m) (h1 : m < 18446744073709551616) (w : World) :
    Calls Tryz.prog 98 #[LV z, .int .u64 0, .int .u64 m, .bool true] w fun e w' => e = .returned (LV (z + n)) ∧ Below w.heap.size w w' := by
  have HZ := Lib.hid (And.intro (show wdJ z 0 = wd0 z from rfl) (And.intro (show wdJ z 1 = wd1 z from rfl) (show wdJ z 2 = wd2 z from rfl)))
  unfold LV
  generalize e0 : wd0 z = z0
  generalize e1 : wd1 z = z1
  generalize e2 : wd2 z = z2
  have HN := Lib.hid (show wd0 n = (18446744073709551615 - m + 1) % 18446744073709551616 ∧ wd1 n = (18446744073709551615 + 0 + (18446744073709551615 - m + 1) / 18446744073709551616) % 18446744073709551616 ∧
      wd2 n = (18446744073709551615 + 0 + (18446744073709551615 + 0 + (18446744073709551615 - m + 1) / 18446744073709551616) / 18446744073709551616) % 18446744073709551616 by rw [hn]; simpa using neg_wd m h0 h1)
  have k1 : 0 ≤ (18446744073709551615 - m + 1) / 18446744073709551616 ∧ (18446744073709551615 - m + 1) / 18446744073709551616 ≤ 1 := by omega
  have x0 : bits .xor .u64 IntKind.u64.max m = 18446744073709551615 - m := xor_max h0 h1
  have x1 : bits .xor .u64 IntKind.u64.max 0 = 18446744073709551615 := xor_max (by decide) (by decide)
  obtain ⟨q0, hq0⟩ : ∃ q, 18446744073709551615 - m = q := ⟨_, rfl⟩
  have hq1 : 0 ≤ q0 := by omega
  rw [hq0] at HN x0 k1
  have s0 := add64_0 q0 1 hq1 (by decide)
  obtain ⟨c1, hc1⟩ : ∃ c, (q0 + 1) / 18446744073709551616 = c := ⟨_, rfl⟩
  rw [hc1] at HN s0 k1
  have s1 := add64 18446744073709551615 0 c1 (by decide) (Int.le_refl 0) k1.1 k1.2
  obtain ⟨c2, hc2⟩ : ∃ c, (18446744073709551615 + 0 + c1) / 18446744073709551616 = c := ⟨_, rfl⟩
  rw [hc2] at HN s1
  have k2 : 0 ≤ c2 ∧ c2 ≤ 1 := by omega
  have s2 := add64 18446744073709551615 0 c2 (by decide) (Int.le_refl 0) k2.1 k2.2
  clear hq0 hq1 hc1 hc2 k1 k2
  go_enter Tryz.func98, Tryz.ntmps98
  go_wp2_with (first | simp only [x0] | simp only [x1] | simp only [s0] | simp only [s1] | simp only [s2])
  go_loopw [12, 39] (fun c i wr => PlRel z n w.heap.size w c i wr) (fun _ i _ => 3 - (intOf i).toNat)
  case atStart =>
    obtain ⟨a0, a1, a2⟩ := HN.out
    refine ⟨0, by omega, rfl, rfl, fun j hj => ?_, fun j hj => ?_, fun j hj => ?_, fun j hj => ?_, ?_, ?_⟩
    · rw [if_neg (by omega)]
      match j, hj with
      | 0, _ => constructor <;> go_simp
      | 1, _ => constructor <;> go_simp
      | 2, _ => constructor <;> go_simp
    · match j, hj with
      | 0, _ => rw [HZ.out.1, e0]; go_simp
      | 1, _ => rw [HZ.out.2.1, e1]; go_simp
      | 2, _ => rw [HZ.out.2.2, e2]; go_simp
    · match j, hj with
      | 0, _ => rw [show wdJ n 0 = wd0 n from rfl, a0]; go_simp
      | 1, _ => rw [show wdJ n 1 = wd1 n from rfl, a1]; go_simp
      | 2, _ => rw [show wdJ n 2 = wd2 n from rfl, a2]; go_simp
    · match j, hj with
      | 0, _ => constructor <;> go_simp
      | 1, _ => constructor <;> go_simp
      | 2, _ => constructor <;> go_simp
    · exact (((below_a1 w _).alloc (by simp) _).alloc (by simp; omega) _).alloc (by simp; omega) _
    · go_simp
  case round =>
    obtain ⟨k, hk, rfl, rfl, hO, hS, hA, hR, hb, hlt4⟩ := hrel
    by_cases hlt : k < 3
    · have C1 := Lib.hid (hS k hlt)
      have C2 := Lib.hid (hA k hlt)
      have C3 := Lib.hid (hO k hlt)
      have HP := Lib.hid (And.intro hO (And.intro hS (And.intro hA (And.intro hR (And.intro hb hlt4)))))
      have hw := add_wdJ z n k hlt
      have hc := crJ_range z n k
      have hz := wdJ_range z k
      have hn := wdJ_range n k
      have HCS := Lib.hid (show crJ z n (k + 1) = (wdJ z k + wdJ n k + crJ z n k) / 18446744073709551616 from rfl)
      have HAD := Lib.hid (fun W => add64 (wdJ z k) (wdJ n k) (crJ z n k) hz.1 hn.1 hc.1 hc.2 W)
      have HW := Lib.hid hw
      clear hO hS hA hR hb hw
      generalize wdJ z k = za at *
      generalize wdJ n k = na at *
      generalize crJ z n k = ca at *
      go_wp2_with fail
      refine regionZ 14 (fun w' => w'.cell? ⟨w.heap.size, k, none⟩ = some (.int .u64 za) ∧ w'.cell? ⟨w.heap.size + 2, k, none⟩ = some (.int .u64 na)) (by kernel_rfl) (⟨C1.out, C2.out⟩) (fun hH => ?_)
      refine takeZ 0 (v := ?_) (gi rfl) (by kernel_rfl) (fun _ _ _ h => h) hH (.inl ⟨rfl, fun w hW => ?_⟩) ?_
      rotate_left
      · (go_simp; try with_reducible rfl)
      try simp only [Act.put, List.setIfInBounds_toArray, List.set_cons_zero, List.set_cons_succ]
      refine takeZ 1 (v := ?_) (gi rfl) (by kernel_rfl) (fun _ _ _ h => h) hH (.inl ⟨rfl, fun w hW => ?_⟩) ?_
      rotate_left
      · (go_simp; try with_reducible rfl)
      try simp only [Act.put, List.setIfInBounds_toArray, List.set_cons_zero, List.set_cons_succ]
      refine takeZ 2 (v := ?_) (gi rfl) (by kernel_rfl) (fun _ _ _ h => h) hH (.inl ⟨rfl, fun w hW => ?_⟩) ?_
      rotate_left
      · (go_simp; try with_reducible rfl)
      try simp only [Act.put, List.setIfInBounds_toArray, List.set_cons_zero, List.set_cons_succ]
      refine takeZ 3 (v := ?_) (gi rfl) (by kernel_rfl) (fun _ _ _ h => h) hH (.inl ⟨rfl, fun w hW => ?_⟩) ?_
      rotate_left
      · (obtain ⟨hW1, hW2⟩ := hW; go_simp; try with_reducible rfl)
      try simp only [Act.put, List.setIfInBounds_toArray, List.set_cons_zero, List.set_cons_succ]
      refine takeZ 4 (v := ?_) (gi rfl) (by kernel_rfl) (fun _ _ _ h => h) hH (.inl ⟨rfl, fun w hW => ?_⟩) ?_
      rotate_left
      · (go_simp; try with_reducible rfl)
      try simp only [Act.put, List.setIfInBounds_toArray, List.set_cons_zero, List.set_cons_succ]
      refine takeZ 5 (v := ?_) (gi rfl) (by kernel_rfl) (fun _ _ _ h => h) hH (.inl ⟨rfl, fun w hW => ?_⟩) ?_
      rotate_left
      · (go_simp; try with_reducible rfl)
      try simp only [Act.put, List.setIfInBounds_toArray, List.set_cons_zero, List.set_cons_succ]
      refine takeZ 6 (v := ?_) (gi rfl) (by kernel_rfl) (fun _ _ _ h => h) hH (.inl ⟨rfl, fun w hW => ?_⟩) ?_
      rotate_left
      · (obtain ⟨hW1, hW2⟩ := hW; go_simp; try with_reducible rfl)
      try simp only [Act.put, List.setIfInBounds_toArray, List.set_cons_zero, List.set_cons_succ]
      refine takeZ 7 (v := ?_) (gi rfl) (by kernel_rfl) (fun _ _ _ h => h) hH (.inl ⟨rfl, fun w hW => ?_⟩) ?_
      rotate_left
      · (go_simp; try with_reducible rfl)
      try simp only [Act.put, List.setIfInBounds_toArray, List.set_cons_zero, List.set_cons_succ]
      refine oneZ 8 (by kernel_rfl) (gi rfl) (fun K hK => ?_)
      try simp only [Act.put, List.setIfInBounds_toArray, List.set_cons_zero, List.set_cons_succ]
      go_simp
      simp only [HAD.out]
      go_simp
      refine hK.out _ _ (fun _ => ⟨C1.out, C2.out⟩) (fun hH => ?_)
      replace hH := hH (by decide)
      clear hK K
      try simp only [Act.put, List.setIfInBounds_toArray, List.set_cons_zero, List.set_cons_succ]
      refine takeZ 9 (v := ?_) (gi rfl) (by kernel_rfl) (fun _ _ _ h => h) hH (.inl ⟨rfl, fun w hW => ?_⟩) ?_
      rotate_left
      · (go_simp; try with_reducible rfl)
      try simp only [Act.put, List.setIfInBounds_toArray, List.set_cons_zero, List.set_cons_succ]
      refine takeZ 10 (v := ?_) (gi rfl) (by kernel_rfl) (fun _ _ _ h => h) hH (.inl ⟨rfl, fun w hW => ?_⟩) ?_
      rotate_left
      · (go_simp; try with_reducible rfl)
      try simp only [Act.put, List.setIfInBounds_toArray, List.set_cons_zero, List.set_cons_succ]
      refine takeZ 11 (v := ?_) (gi rfl) (by kernel_rfl) (fun _ _ _ h => h) hH (.inl ⟨rfl, fun w hW => ?_⟩) ?_
      rotate_left
      · (go_simp; try with_reducible rfl)
      try simp only [Act.put, List.setIfInBounds_toArray, List.set_cons_zero, List.set_cons_succ]
      refine takeZ 12 (v := ?_) (gi rfl) (by kernel_rfl) (fun _ _ _ h => h) hH (.inl ⟨rfl, fun w hW => ?_⟩) ?_
      rotate_left
      · (go_simp; try with_reducible rfl)
      try simp only [Act.put, List.setIfInBounds_toArray, List.set_cons_zero, List.set_cons_succ]
      obtain ⟨c3, f3⟩ := C3.out
      rw [if_neg (Nat.lt_irrefl k)] at c3
      refine oneZ 13 (by kernel_rfl) (gi rfl) (fun K hK => ?_)
      try simp only [Act.put, List.setIfInBounds_toArray, List.set_cons_zero, List.set_cons_succ]
      have c3d : wr.drew.cell? ⟨w.heap.size + 3, k, none⟩ = some (.int .u64 0) := c3
      have f3d : wr.drew.frozen? ⟨w.heap.size + 3, k, none⟩ = false := f3
      go_simp
      refine hK.out _ _ (fun _ => ⟨cell_far1 (by omega) C1.out, cell_far1 (by omega) C2.out⟩) (fun hH => ?_)
      replace hH := hH (by decide)
      clear hK K
      try simp only [Act.put, List.setIfInBounds_toArray, List.set_cons_zero, List.set_cons_succ]
      refine yieldZ 14 (v := ?_) (by kernel_rfl) (gi rfl) hH (.inl ⟨rfl, fun w hW => ?_⟩) ?_
      rotate_left
      · (go_simp; try with_reducible rfl)
      try simp only [Act.put, List.setIfInBounds_toArray, List.set_cons_zero, List.set_cons_succ]
      refine doneZ (by kernel_rfl) ?_ _
      clear hH
      go_wp2_with fail
      obtain ⟨hO, hS, hA, hR, hb, hl⟩ := HP.out
      refine ⟨⟨k + 1, by omega, by go_num, by rw [HCS.out], fun j hj => ?_, fun j hj => cell_far1 (by omega) (hS j hj), fun j hj => cell_far1 (by omega) (hA j hj), fun j hj => ⟨cell_far1 (by omega) (hR j hj).1, by show (World.setCell wr _ _).frozen? _ = _; rw [World.frozen?_setCell]; exact (hR j hj).2⟩, (hb.drew).setCell (p := ⟨w.heap.size + 3, k, none⟩) (by show w.heap.size ≤ w.heap.size + 3; omega) _, by simpa using hl⟩, by simp [intOf]; omega⟩
      refine ⟨?_, by show (World.setCell wr _ _).frozen? _ = _; rw [World.frozen?_setCell]; exact (hO j hj).2⟩
      show (World.setCell wr _ _).cell? _ = _
      by_cases hjk : j = k
      · subst hjk
        rw [if_pos (by omega), HW.out]
        exact World.cell?_setCell_same' _ _ _ (by rw [show wr.cell? _ = _ from (hO j hj).1]; rfl)
      · rw [World.cell?_setCell_other (h := fun e => hjk (by injection e with _ e2; exact e2.symm))]
        have h9 := (hO j hj).1
        by_cases hjl : j < k
        · rw [if_pos (by omega)]; rw [if_pos hjl] at h9; exact h9
        · rw [if_neg (by omega)]; rw [if_neg hjl] at h9; exact h9
    · obtain rfl : k = 3 := by omega
      have o0 := (hO 0 (by omega)).1
      have o1 := (hO 1 (by omega)).1
      have o2 := (hO 2 (by omega)).1
      rw [if_pos (by omega)] at o0 o1 o2
      obtain ⟨r0, f0⟩ := hR 0 (by omega)
      obtain ⟨r1, f1⟩ := hR 1 (by omega)
      obtain ⟨r2, f2⟩ := hR 2 (by omega)
      have HB := Lib.hid hb
      have E := Lib.hid (And.intro (show wd0 (z + n) = wdJ (z + n) 0 from rfl) (And.intro (show wd1 (z + n) = wdJ (z + n) 1 from rfl) (show wd2 (z + n) = wdJ (z + n) 2 from rfl)))
      generalize wdJ (z + n) 0 = q0 at *
      generalize wdJ (z + n) 1 = q1 at *
      generalize wdJ (z + n) 2 = q2 at *
      clear hO hS hA hR hb
      go_wp2
      refine bodyPost_ret (v := .agg #[.int .u64 q0, .int .u64 q1, .int .u64 q2]) (by simp [results, Tryz.results98, go_sem, *]) rfl ?_
      refine ⟨by rw [E.out.1, E.out.2.1, E.out.2.2], ?_⟩
      exact ((HB.out.setCell (p := ⟨w.heap.size + 1, 0, none⟩) (by show w.heap.size ≤ w.heap.size + 1; omega) _).setCell (p := ⟨w.heap.size + 1, 1, none⟩) (by show w.heap.size ≤ w.heap.size + 1; omega) _).setCell (p := ⟨w.heap.size + 1, 2, none⟩) (by show w.heap.size ≤ w.heap.size + 1; omega) _
end Go.Proofs.YtcaeihfgdlffkaaGreatRRRRDoor.LnpW

/- num.Sum and the spread of a column's numbers, walked (printed by mksum.py). -/
namespace Go.Proofs.YtcaeihfgdlffkaaGreatRRRRDoor.SumW
set_option linter.unusedVariables false
set_option linter.unusedSimpArgs false
open Go.RowKit Base BigZ RptN RptM RptC WidX SeqM LngW HzW RotW LnpW ScoX

/-- three cells hold a long sum -/
def Lg (w : World) (B : Nat) (z : Int) : Prop := (w.cell? ⟨B, 0, none⟩ = some (.int .u64 (wd0 z)) ∧ w.cell? ⟨B, 1, none⟩ = some (.int .u64 (wd1 z)) ∧ w.cell? ⟨B, 2, none⟩ = some (.int .u64 (wd2 z))) ∧
  (w.frozen? ⟨B, 0, none⟩ = false ∧ w.frozen? ⟨B, 1, none⟩ = false ∧ w.frozen? ⟨B, 2, none⟩ = false)
theorem Lg.below {w w' : World} {B : Nat} {z : Int} (h : Lg w B z) (hb : Below w.heap.size w w') : Lg w' B z := by
  obtain ⟨⟨c0, c1, c2⟩, f0, f1, f2⟩ := h
  have hB : B < w.heap.size := World.block_lt_of_cell? w _ c0
  exact ⟨⟨keepA hb c0, keepA hb c1, keepA hb c2⟩, (hb.frozen (p := ⟨B, 0, none⟩) hB).trans f0, (hb.frozen (p := ⟨B, 1, none⟩) hB).trans f1, (hb.frozen (p := ⟨B, 2, none⟩) hB).trans f2⟩
theorem lg_set {w : World} {B : Nat} {z z' : Int} (h : Lg w B z) : Lg (((w.setCell ⟨B, 0, none⟩ (.int .u64 (wd0 z'))).setCell ⟨B, 1, none⟩ (.int .u64 (wd1 z'))).setCell ⟨B, 2, none⟩ (.int .u64 (wd2 z'))) B z' := by
  obtain ⟨⟨c0, c1, c2⟩, f0, f1, f2⟩ := h
  refine ⟨⟨?_, ?_, ?_⟩, ?_, ?_, ?_⟩ <;> go_simp
theorem plus_any (z x : Int) (hx : -9223372036854775808 ≤ x ∧ x ≤ 9223372036854775807) (w : World) :
    Calls Tryz.prog 98 #[LV z, .int .u64 0, .int .u64 (x.natAbs : Int), .bool (decide (x < 0))] w fun e w' => e = .returned (LV (z + x)) ∧ Below w.heap.size w w' := by
  by_cases h : x < 0
  · rw [decide_eq_true h]
    exact plus_neg z x (x.natAbs : Int) (by omega) (by omega) (by omega) w
  · rw [decide_eq_false h, show ((x.natAbs : Nat) : Int) = x by omega]
    exact plus_pos z x (by omega) (by omega) w
theorem wd_zero : wd0 0 = 0 ∧ wd1 0 = 0 ∧ wd2 0 = 0 := by decide
def I64 (x : Int) : Prop := -9223372036854775808 ≤ x ∧ x ≤ 9223372036854775807
def SuRel (l : List Int) (w : World) (i : Value) (wr : World) : Prop := ∃ k : Nat, k ≤ l.length ∧ i = .int .i64 (k : Int) ∧ Lg wr w.heap.size (sum1 (l.take k)) ∧ Below w.heap.size w wr ∧ w.heap.size < wr.heap.size
set_option maxRecDepth 100000 in
set_option maxHeartbeats 4000000 in
theorem Sum_any (v : Value) (l : List Int) (w : World) (h : Seq 1 inC w 0 w.heap.size v l) (hf : ∀ x ∈ l, I64 x) (hs : I64 (sum1 l)) :
    Calls Tryz.prog 61 #[v] w fun e w' => e = .returned (.tuple #[.int .i64 (sum1 l), .int .i64 0]) ∧ Below w.heap.size w w' := by
  obtain ⟨A, cap, rfl, hc1, hc2, hr, _⟩ := h
  unfold maxLen at hc2
  have HR := Lib.hid hr
  have HF := Lib.hid hf
  have HS := Lib.hid hs
  obtain ⟨m, hm⟩ : ∃ m, l.length = m := ⟨_, rfl⟩
  rw [hm] at hc1 ⊢
  have HM := Lib.hid hm
  clear hr hf hm hs
  obtain ⟨sm, hsm⟩ : ∃ s, sum1 l = s := ⟨_, rfl⟩
  have HSM := Lib.hid hsm
  rw [hsm] at HS ⊢
  clear hsm
  go_enter Tryz.func61, Tryz.ntmps61
  go_wp2
  go_loopw [9] (fun i wr => SuRel l w i wr) (fun i _ => m - (intOf i).toNat)
  case atStart =>
    refine ⟨0, Nat.zero_le _, rfl, ?_, below_a1 _ _, by simp⟩
    show Lg _ _ 0
    unfold Lg
    rw [wd_zero.1, wd_zero.2.1, wd_zero.2.2]
    refine ⟨⟨?_, ?_, ?_⟩, ?_, ?_, ?_⟩ <;> go_simp
  case round =>
    obtain ⟨k, hk, rfl, hL, hb, hlt4⟩ := hrel
    rw [HM.out] at hk
    have HL := Lib.hid hL
    have HB := Lib.hid hb
    by_cases hlt : k < m
    · obtain ⟨ad, x, rfl, _, hbk, hx, hc⟩ := rdI HR.out (i := k) (by rw [HM.out]; exact hlt)
      have hxr := HF.out x (List.mem_of_getElem? hx)
      have c0 : wr.cell? (ad.add k) = some (.int .i64 x) := (hb.cell (by rw [Base.add_block]; exact hbk)).trans hc
      have HT := Lib.hid (show sum1 (l.take (k + 1)) = sum1 (l.take k) + x by rw [SeqM.take_next hx, sum1_snoc])
      have HP := Lib.hid (fun W => plus_any (sum1 (l.take k)) x hxr W)
      have HZ := Lib.hid (fun W => size_any x W hxr.1 hxr.2)
      generalize sum1 (l.take k) = s at *
      clear hc hx hb hL
      obtain ⟨⟨s0, s1, s2⟩, f0, f1, f2⟩ := HL.out
      have CL := Lib.hid (And.intro s0 (And.intro s1 s2))
      have HW := Lib.hid (show LV s = .agg #[.int .u64 (wd0 s), .int .u64 (wd1 s), .int .u64 (wd2 s)] from rfl)
      go_wp2_with fail
      refine regionZ 6 (fun w' => w'.cell? ⟨w.heap.size, 0, none⟩ = some (.int .u64 (wd0 s)) ∧ w'.cell? ⟨w.heap.size, 1, none⟩ = some (.int .u64 (wd1 s)) ∧ w'.cell? ⟨w.heap.size, 2, none⟩ = some (.int .u64 (wd2 s))) (by kernel_rfl) (CL.out) (fun hH => ?_)
      refine takeZ 0 (v := ?_) (gi rfl) (by kernel_rfl) (fun _ _ _ h => h) hH (.inl ⟨rfl, fun w hW => ?_⟩) ?_
      rotate_left
      · (obtain ⟨hW1, hW2, hW3⟩ := hW; go_simp; try with_reducible rfl)
      try simp only [Act.put, List.setIfInBounds_toArray, List.set_cons_zero, List.set_cons_succ]
      refine takeZ 1 (v := ?_) (gi rfl) (by kernel_rfl) (fun _ _ _ h => h) hH (.inl ⟨rfl, fun w hW => ?_⟩) ?_
      rotate_left
      · (go_simp; try with_reducible rfl)
      try simp only [Act.put, List.setIfInBounds_toArray, List.set_cons_zero, List.set_cons_succ]
      refine takeZ 3 (v := ?_) (gi rfl) (by kernel_rfl) (fun _ _ _ h => h) hH (.inl ⟨rfl, fun w hW => ?_⟩) ?_
      rotate_left
      · (go_simp; try with_reducible rfl)
      try simp only [Act.put, List.setIfInBounds_toArray, List.set_cons_zero, List.set_cons_succ]
      refine takeZ 4 (v := ?_) (gi rfl) (by kernel_rfl) (fun _ _ _ h => h) hH (.inl ⟨rfl, fun w hW => ?_⟩) ?_
      rotate_left
      · (go_simp; try with_reducible rfl)
      try simp only [Act.put, List.setIfInBounds_toArray, List.set_cons_zero, List.set_cons_succ]
      refine oneZ 2 (by kernel_rfl) (gi rfl) (fun K hK => ?_)
      try simp only [Act.put, List.setIfInBounds_toArray, List.set_cons_zero, List.set_cons_succ]
      go_simp
      refine (HZ.out _).mono ?_
      rintro e w1 ⟨rfl, rfl⟩
      refine hK.out _ _ (fun _ => CL.out) (fun hH => ?_)
      replace hH := hH (by decide)
      clear hK K
      try simp only [Act.put, List.setIfInBounds_toArray, List.set_cons_zero, List.set_cons_succ]
      refine oneZ 5 (by kernel_rfl) (gi rfl) (fun K hK => ?_)
      try simp only [Act.put, List.setIfInBounds_toArray, List.set_cons_zero, List.set_cons_succ]
      go_simp
      rw [← HW.out]
      refine (HP.out _).mono ?_
      rintro e w1 ⟨rfl, hb1⟩
      have HL1 := Lib.hid (HL.out.below (w' := w1) ((Below.refl _ wr).drew.trans (hb1.mono (Nat.le_refl _))))
      have HB1 := Lib.hid (show Below w.heap.size w w1 from bt ((Below.refl _ wr).drew.trans hb1) HB.out)
      have HS1 := Lib.hid (show w.heap.size < w1.heap.size from Nat.lt_of_lt_of_le hlt4 hb1.size)
      clear hb1
      refine hK.out _ _ (fun _ => HL1.out.1) (fun hH => ?_)
      replace hH := hH (by decide)
      clear hK K
      try simp only [Act.put, List.setIfInBounds_toArray, List.set_cons_zero, List.set_cons_succ]
      refine oneZ 6 (by kernel_rfl) (gi rfl) (fun K hK => ?_)
      try simp only [Act.put, List.setIfInBounds_toArray, List.set_cons_zero, List.set_cons_succ]
      obtain ⟨⟨q0, q1, q2⟩, g0, g1, g2⟩ := HL1.out
      unfold LV
      go_simp
      refine hK.out _ _ (fun h => absurd rfl h) (fun hH => ?_)
      clear hK K
      try simp only [Act.put, List.setIfInBounds_toArray, List.set_cons_zero, List.set_cons_succ]
      refine doneZ (by kernel_rfl) ?_ _
      clear hH
      go_wp2_with fail
      refine ⟨⟨k + 1, by rw [HM.out]; omega, by go_num, by rw [HT.out]; exact lg_set HL1.out, ((HB1.out.setCell (p := ⟨w.heap.size, 0, none⟩) (Nat.le_refl _) _).setCell (p := ⟨w.heap.size, 1, none⟩) (Nat.le_refl _) _).setCell (p := ⟨w.heap.size, 2, none⟩) (Nat.le_refl _) _, by simpa using HS1.out⟩, by simp [intOf]; omega⟩
    · obtain rfl : k = m := by omega
      rw [List.take_of_length_le (by rw [HM.out]; omega), HSM.out] at HL hL
      obtain ⟨⟨s0, s1, s2⟩, f0, f1, f2⟩ := hL
      have HP := Lib.hid (fun W => fits_any sm HS.out.1 HS.out.2 W)
      unfold LV at HP
      clear hb
      go_wp2_with fail
      refine (HP.out _).mono ?_
      rintro e w2 ⟨rfl, hb2⟩
      go_wp2
      go_ret2
      exact ⟨rfl, bt hb2 HB.out⟩
end Go.Proofs.YtcaeihfgdlffkaaGreatRRRRDoor.SumW
