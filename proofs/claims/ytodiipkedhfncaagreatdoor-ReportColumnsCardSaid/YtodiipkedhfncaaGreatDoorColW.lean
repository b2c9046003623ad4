/- What a column's numbers are like, walked (report's numbers.column; printed by mkcol.py). -/
import Derived.Test.YtodiipkedhfncaaGreatDoorSpdW
import Derived.Test.YtodiipkedhfncaaGreatDoorSrtW
import Derived.Test.YtodiipkedhfncaaGreatDoorDevW
namespace Go.Proofs.YtodiipkedhfncaaGreatDoor.ColW
set_option linter.unusedVariables false
set_option linter.unusedSimpArgs false
open Go.RowKit Base BigZ RptN RptM RptO RptC WidX SeqM ValW SrtW SumW SpdW DevW HyW RotW

theorem flat_inC (l : List Int) : l.flatMap inC = l.map (Value.int .i64) := by
  induction l with
  | nil => rfl
  | cons x r ih => rw [List.flatMap_cons, List.map_cons, ih]; rfl
theorem own_ints {w : World} {base : Nat} {t : TypeId} {v : Value} {l : List Int} (h : w.ownsRow base t 1 v l.length (l.map (Value.int .i64))) (hne : 0 < l.length) :
    ∃ g cap, v = .slice (some ⟨g, 0, none⟩) l.length cap ∧ base ≤ g ∧ g < w.heap.size ∧ ∀ j, j < l.length → w.cell? ⟨g, j, none⟩ = some (.int .i64 (l[j]?.getD 0)) := by
  rcases h.2 with ⟨hv, h0⟩ | ⟨g, cap, cur, hv, hb, hg, hc, hm, hcur, hx⟩
  · omega
  · refine ⟨g, cap, hv, hb, (Array.getElem?_eq_some_iff.1 hg).1, fun j hj => ?_⟩
    have h1 : (cur.toList.take (l.length * 1))[j]? = (l.map (Value.int .i64))[j]? := by rw [← hx]
    rw [List.getElem?_take, if_pos (by omega), List.getElem?_map, List.getElem?_eq_getElem hj] at h1
    have h2 : cur[j]? = some (.int .i64 l[j]) := by rw [← Array.getElem?_toList]; exact h1
    rw [List.getElem?_eq_getElem hj]
    simp [World.cell?, hg, h2]
theorem seq_own {w : World} {base : Nat} {t : TypeId} {v : Value} {l : List Int} (h : w.ownsRow base t 1 v l.length (l.map (Value.int .i64))) : Seq 1 inC w base w.heap.size v l := Seq.of_own (by rw [flat_inC]; exact h)
theorem values_any (v : Value) (hv : ∃ a n c, v = .slice a n c) (w : World) :
    Calls Tryz.prog 56 #[v] w fun e w' => e = .returned (.func (.func 89) #[] #[.pointer (some ⟨w.heap.size, 0, none⟩)]) ∧ w' = w.alloc (.cells #[v] 69) := by
  obtain ⟨a, n, c, rfl⟩ := hv
  go_enter Tryz.func56, Tryz.ntmps56
  go_wp2
  go_ret
  exact ⟨rfl, rfl⟩
theorem ints_up {w w' : World} {sv : Value} {zs : List Int} (h : Ints w.heap.size w sv zs) (hb : Below w.heap.size w w') : Ints w'.heap.size w' sv zs := by
  obtain ⟨b, off, cap, e, h1, h2⟩ := h
  exact ⟨b, off, cap, e, Nat.lt_of_lt_of_le h1 hb.size, fun j hj => keepA hb (h2 j hj)⟩
/-- what the numbers of a column are like -/
def colOf (l : List Int) : Col := ⟨(sortR l).getD 0 0, (sortR l).getD (l.length - 1) 0, (sortR l).getD ((l.length + 1) / 2 - 1) 0, sum1 l, pairs [] l⟩
/-- cells that are one's own -/
def Mine (w : World) (B n : Nat) : Prop := ∀ j, j < n → (∃ u, w.cell? ⟨B, j, none⟩ = some u) ∧ w.frozen? ⟨B, j, none⟩ = false
theorem Mine.below {w w' : World} {B n : Nat} (hB : B < w.heap.size) (h : Mine w B n) (hb : Below w.heap.size w w') : Mine w' B n := fun j hj => by
  obtain ⟨⟨u, hu⟩, hf⟩ := h j hj
  exact ⟨⟨u, keepA hb hu⟩, (hb.frozen (p := ⟨B, j, none⟩) hB).trans hf⟩
set_option maxRecDepth 100000 in
set_option maxHeartbeats 4000000 in
theorem column_any (v : Value) (l : List Int) (base : Nat) (w : World) (h : w.ownsRow base 3 1 v l.length (l.map (Value.int .i64))) (hne : 0 < l.length) (hf : Nm l) (hl : l.length ≤ 256) :
    Calls Tryz.prog 33 #[v] w fun e w' => e = .returned (CV (colOf l)) ∧ Below w.heap.size w w' := by
  have HSEQ := Lib.hid ((seq_own h).more (lo' := 0) (Nat.zero_le _) (Nat.le_refl _))
  obtain ⟨g, cap, rfl, hbg, hg, hcells⟩ := own_ints h hne
  have HI := Lib.hid (show Ints w.heap.size w (.slice (some ⟨g, 0, none⟩) l.length cap) l from ⟨g, 0, cap, rfl, hg, fun j hj => by rw [Nat.zero_add]; exact hcells j hj⟩)
  have HF := Lib.hid hf
  clear hcells h hf
  obtain ⟨W, eW⟩ : ∃ W, w.alloc (.cells #[.int .i64 0, .int .i64 0, .int .i64 0, .int .i64 0, .int .u64 0, .int .u64 0] 35) = W := ⟨_, rfl⟩
  have HB := Lib.hid (show Below w.heap.size w W by rw [← eW]; exact below_a1 _ _)
  have HMI := Lib.hid (show w.heap.size < W.heap.size ∧ Mine W w.heap.size 6 by
    subst eW
    refine ⟨by simp, fun j hj => ?_⟩
    match j, hj with
    | 0, _ => exact ⟨⟨_, by go_simp; rfl⟩, by go_simp⟩
    | 1, _ => exact ⟨⟨_, by go_simp; rfl⟩, by go_simp⟩
    | 2, _ => exact ⟨⟨_, by go_simp; rfl⟩, by go_simp⟩
    | 3, _ => exact ⟨⟨_, by go_simp; rfl⟩, by go_simp⟩
    | 4, _ => exact ⟨⟨_, by go_simp; rfl⟩, by go_simp⟩
    | 5, _ => exact ⟨⟨_, by go_simp; rfl⟩, by go_simp⟩)
  go_enter Tryz.func33, Tryz.ntmps33
  go_wp2_with fail
  refine (values_any _ ⟨_, _, _, rfl⟩ _).mono ?_
  rintro e w1 ⟨rfl, rfl⟩
  go_wp2_with fail
  have HX := Lib.hid (bt (below_a1 W (.cells #[.slice (some ⟨g, 0, none⟩) l.length cap] 69)) HB.out)
  refine (sorted_any W.heap.size (.slice (some ⟨g, 0, none⟩) l.length cap) l (by omega) hne _ (by simp) (by go_simp) (ints_up HI.out HX.out)).mono ?_
  rintro e w2 ⟨⟨v, rfl, hv⟩, hb2⟩
  have HM2 := Lib.hid (HMI.out.2.below HMI.out.1 (bt hb2 (below_a1 _ _)))
  have HM1 := Lib.hid (show w.heap.size < w2.heap.size from Nat.lt_of_lt_of_le HMI.out.1 (bt hb2 (below_a1 _ _)).size)
  have HB2 := Lib.hid (bt hb2 HX.out)
  obtain ⟨gs, cs, rfl, _, hgs, hcell⟩ := own_ints (l := sortR l) (by rw [sortR_length]; exact hv) (by rw [sortR_length]; exact hne)
  have HS := Lib.hid hcell
  clear hcell hv hb2 HX HB HMI HI eW
  rw [sortR_length] at HS ⊢
  have HLEN := Lib.hid hl
  go_wp2_with fail
  refine (Sum_any _ l w2 (HSEQ.out.up (HB2.out)) (fun x hx => by have := HF.out x hx; exact ⟨by omega, by omega⟩) (by have := sum1_le l HF.out; exact ⟨by omega, by omega⟩)).mono ?_
  rintro e w3 ⟨rfl, hb3⟩
  have HM3 := Lib.hid (HM2.out.below HM1.out hb3)
  have HB3 := Lib.hid (bt hb3 HB2.out)
  have HS3 := Lib.hid (fun j hj => keepA hb3 (HS.out j hj))
  clear HM2 HB2 HS hb3
  have c0 := HS3.out 0 hne
  have c1 := HS3.out (l.length - 1) (by omega)
  have c2 := HS3.out ((l.length + 1) / 2 - 1) (by omega)
  obtain ⟨q, hq⟩ : ∃ q : Nat, (l.length + 1) / 2 - 1 = q := ⟨_, rfl⟩
  obtain ⟨r, hr⟩ : ∃ r : Nat, l.length - 1 = r := ⟨_, rfl⟩
  have HQ := Lib.hid hq
  have HR := Lib.hid hr
  rw [hq] at c2
  rw [hr] at c1
  have e1 : ((l.length : Nat) : Int) - 1 = (r : Int) := by omega
  have e2 : (((l.length : Nat) : Int) + 1) / 2 = (q : Int) + 1 := by omega
  have e3 : (((l.length : Nat) : Int) + 1).tdiv 2 = (q : Int) + 1 := by rw [Int.tdiv_eq_ediv_of_nonneg (by omega)]; exact e2
  have e4 : (q : Int) + 1 - 1 = (q : Int) := by omega
  have k1 : r < l.length := by omega
  have k2 : q < l.length := by omega
  have v0 : IntKind.i64.wrap (((l.length : Nat) : Int) + 1) = ((l.length : Nat) : Int) + 1 := IntWalk.i64_in _ (by omega)
  have v1 : IntKind.i64.wrap (r : Int) = (r : Int) := IntWalk.i64_in _ (by omega)
  have v2 : IntKind.i64.wrap ((q : Int) + 1) = (q : Int) + 1 := IntWalk.i64_in _ (by omega)
  have v3 : IntKind.i64.wrap (q : Int) = (q : Int) := IntWalk.i64_in _ (by omega)
  clear hq hr
  have HSP := Lib.hid (fun W (h : Below w3.heap.size w3 W) => spread_any _ l W ((HSEQ.out.up HB3.out).up h) HF.out HLEN.out)
  go_wp2_with fail
  have CL := Lib.hid (And.intro c0 (And.intro c1 c2))
  clear c0 c1 c2
  refine regionZ 22 (fun w' => w'.cell? ⟨gs, 0, none⟩ = some (.int .i64 ((sortR l)[0]?.getD 0)) ∧ w'.cell? ⟨gs, r, none⟩ = some (.int .i64 ((sortR l)[r]?.getD 0)) ∧ w'.cell? ⟨gs, q, none⟩ = some (.int .i64 ((sortR l)[q]?.getD 0))) (by kernel_rfl) (CL.out) (fun hH => ?_)
  refine takeZ 0 (v := ?_) (gi rfl) (by kernel_rfl) (fun _ _ _ h => h) hH (.inl ⟨rfl, fun w hW => ?_⟩) ?_
  rotate_left
  · (go_simp; try with_reducible rfl)
  try simp only [Act.put, List.setIfInBounds_toArray, List.set_cons_zero, List.set_cons_succ]
  refine takeZ 1 (v := ?_) (gi rfl) (by kernel_rfl) (fun _ _ _ h => h) hH (.inl ⟨rfl, fun w hW => ?_⟩) ?_
  rotate_left
  · (go_simp; try with_reducible rfl)
  try simp only [Act.put, List.setIfInBounds_toArray, List.set_cons_zero, List.set_cons_succ]
  refine takeZ 2 (v := ?_) (gi rfl) (by kernel_rfl) (fun _ _ _ h => h) hH (.inl ⟨rfl, fun w hW => ?_⟩) ?_
  rotate_left
  · (obtain ⟨hW1, hW2, hW3⟩ := hW; go_simp; try with_reducible rfl)
  try simp only [Act.put, List.setIfInBounds_toArray, List.set_cons_zero, List.set_cons_succ]
  refine takeZ 3 (v := ?_) (gi rfl) (by kernel_rfl) (fun _ _ _ h => h) hH (.inl ⟨rfl, fun w hW => ?_⟩) ?_
  rotate_left
  · (go_simp; try with_reducible rfl)
  try simp only [Act.put, List.setIfInBounds_toArray, List.set_cons_zero, List.set_cons_succ]
  refine takeZ 4 (v := ?_) (gi rfl) (by kernel_rfl) (fun _ _ _ h => h) hH (.inl ⟨rfl, fun w hW => ?_⟩) ?_
  rotate_left
  · (go_simp; try with_reducible rfl)
  try simp only [Act.put, List.setIfInBounds_toArray, List.set_cons_zero, List.set_cons_succ]
  refine takeZ 5 (v := ?_) (gi rfl) (by kernel_rfl) (fun _ _ _ h => h) hH (.inl ⟨rfl, fun w hW => ?_⟩) ?_
  rotate_left
  · (go_simp; try with_reducible rfl)
  try simp only [Act.put, List.setIfInBounds_toArray, List.set_cons_zero, List.set_cons_succ]
  refine takeZ 6 (v := ?_) (gi rfl) (by kernel_rfl) (fun _ _ _ h => h) hH (.inl ⟨rfl, fun w hW => ?_⟩) ?_
  rotate_left
  · (go_simp; try with_reducible rfl)
  try simp only [Act.put, List.setIfInBounds_toArray, List.set_cons_zero, List.set_cons_succ]
  refine takeZ 7 (v := ?_) (gi rfl) (by kernel_rfl) (fun _ _ _ h => h) hH (.inl ⟨rfl, fun w hW => ?_⟩) ?_
  rotate_left
  · (go_simp; try with_reducible rfl)
  try simp only [Act.put, List.setIfInBounds_toArray, List.set_cons_zero, List.set_cons_succ]
  refine takeZ 8 (v := ?_) (gi rfl) (by kernel_rfl) (fun _ _ _ h => h) hH (.inl ⟨rfl, fun w hW => ?_⟩) ?_
  rotate_left
  · (obtain ⟨hW1, hW2, hW3⟩ := hW; go_simp; try with_reducible rfl)
  try simp only [Act.put, List.setIfInBounds_toArray, List.set_cons_zero, List.set_cons_succ]
  refine takeZ 9 (v := ?_) (gi rfl) (by kernel_rfl) (fun _ _ _ h => h) hH (.inl ⟨rfl, fun w hW => ?_⟩) ?_
  rotate_left
  · (go_simp; try with_reducible rfl)
  try simp only [Act.put, List.setIfInBounds_toArray, List.set_cons_zero, List.set_cons_succ]
  refine takeZ 10 (v := ?_) (gi rfl) (by kernel_rfl) (fun _ _ _ h => h) hH (.inl ⟨rfl, fun w hW => ?_⟩) ?_
  rotate_left
  · (go_simp; try with_reducible rfl)
  try simp only [Act.put, List.setIfInBounds_toArray, List.set_cons_zero, List.set_cons_succ]
  refine takeZ 11 (v := ?_) (gi rfl) (by kernel_rfl) (fun _ _ _ h => h) hH (.inl ⟨rfl, fun w hW => ?_⟩) ?_
  rotate_left
  · (go_simp; try with_reducible rfl)
  try simp only [Act.put, List.setIfInBounds_toArray, List.set_cons_zero, List.set_cons_succ]
  refine takeZ 12 (v := ?_) (gi rfl) (by kernel_rfl) (fun _ _ _ h => h) hH (.inl ⟨rfl, fun w hW => ?_⟩) ?_
  rotate_left
  · (go_simp; try with_reducible rfl)
  try simp only [Act.put, List.setIfInBounds_toArray, List.set_cons_zero, List.set_cons_succ]
  refine takeZ 13 (v := ?_) (gi rfl) (by kernel_rfl) (fun _ _ _ h => h) hH (.inl ⟨rfl, fun w hW => ?_⟩) ?_
  rotate_left
  · (go_simp; try with_reducible rfl)
  try simp only [Act.put, List.setIfInBounds_toArray, List.set_cons_zero, List.set_cons_succ]
  refine takeZ 14 (v := ?_) (gi rfl) (by kernel_rfl) (fun _ _ _ h => h) hH (.inl ⟨rfl, fun w hW => ?_⟩) ?_
  rotate_left
  · (go_simp; try with_reducible rfl)
  try simp only [Act.put, List.setIfInBounds_toArray, List.set_cons_zero, List.set_cons_succ]
  refine takeZ 15 (v := ?_) (gi rfl) (by kernel_rfl) (fun _ _ _ h => h) hH (.inl ⟨rfl, fun w hW => ?_⟩) ?_
  rotate_left
  · (go_simp; try with_reducible rfl)
  try simp only [Act.put, List.setIfInBounds_toArray, List.set_cons_zero, List.set_cons_succ]
  refine takeZ 16 (v := ?_) (gi rfl) (by kernel_rfl) (fun _ _ _ h => h) hH (.inl ⟨rfl, fun w hW => ?_⟩) ?_
  rotate_left
  · (obtain ⟨hW1, hW2, hW3⟩ := hW; go_simp; try with_reducible rfl)
  try simp only [Act.put, List.setIfInBounds_toArray, List.set_cons_zero, List.set_cons_succ]
  refine takeZ 17 (v := ?_) (gi rfl) (by kernel_rfl) (fun _ _ _ h => h) hH (.inl ⟨rfl, fun w hW => ?_⟩) ?_
  rotate_left
  · (go_simp; try with_reducible rfl)
  try simp only [Act.put, List.setIfInBounds_toArray, List.set_cons_zero, List.set_cons_succ]
  refine takeZ 18 (v := ?_) (gi rfl) (by kernel_rfl) (fun _ _ _ h => h) hH (.inl ⟨rfl, fun w hW => ?_⟩) ?_
  rotate_left
  · (go_simp; try with_reducible rfl)
  try simp only [Act.put, List.setIfInBounds_toArray, List.set_cons_zero, List.set_cons_succ]
  refine takeZ 19 (v := ?_) (gi rfl) (by kernel_rfl) (fun _ _ _ h => h) hH (.inl ⟨rfl, fun w hW => ?_⟩) ?_
  rotate_left
  · (go_simp; try with_reducible rfl)
  try simp only [Act.put, List.setIfInBounds_toArray, List.set_cons_zero, List.set_cons_succ]
  refine oneZ 20 (by kernel_rfl) (gi rfl) (fun K hK => ?_)
  try simp only [Act.put, List.setIfInBounds_toArray, List.set_cons_zero, List.set_cons_succ]
  go_simp
  refine (HSP.out w3.drew ((Below.refl _ w3).drew)).mono ?_
  rintro e w4 ⟨rfl, hb4⟩
  have HK4 := Lib.hid hb4
  clear hb4
  refine hK.out _ _ (fun _ => ⟨keepA HK4.out CL.out.1, keepA HK4.out CL.out.2.1, keepA HK4.out CL.out.2.2⟩) (fun hH => ?_)
  replace hH := hH (by decide)
  clear hK K
  try simp only [Act.put, List.setIfInBounds_toArray, List.set_cons_zero, List.set_cons_succ]
  unfold WV
  refine takeZ 21 (v := ?_) (gi rfl) (by kernel_rfl) (fun _ _ _ h => h) hH (.inl ⟨rfl, fun w hW => ?_⟩) ?_
  rotate_left
  · (go_simp; try with_reducible rfl)
  try simp only [Act.put, List.setIfInBounds_toArray, List.set_cons_zero, List.set_cons_succ]
  have HB4 := Lib.hid (bt ((Below.refl _ w3).drew.trans HK4.out) HB3.out)
  have hlt3 : w.heap.size < w3.heap.size := by
    obtain ⟨⟨u, hu⟩, -⟩ := HM3.out 0 (by omega)
    exact World.block_lt_of_cell? w3 _ hu
  have hm4 := Mine.below (w := w3.drew) hlt3 HM3.out HK4.out
  clear HM3 HB3
  obtain ⟨⟨u0, d0⟩, f0⟩ := hm4 0 (by omega)
  obtain ⟨⟨u1, d1⟩, f1⟩ := hm4 1 (by omega)
  obtain ⟨⟨u2, d2⟩, f2⟩ := hm4 2 (by omega)
  obtain ⟨⟨u3, d3⟩, f3⟩ := hm4 3 (by omega)
  obtain ⟨⟨u4, d4⟩, f4⟩ := hm4 4 (by omega)
  obtain ⟨⟨u5, d5⟩, f5⟩ := hm4 5 (by omega)
  clear hm4 e1 e2 e3 e4 v0 v1 v2 v3 HSP HS3 CL HK4
  have HCV := Lib.hid (show CV (colOf l) = .agg #[.int .i64 ((sortR l)[0]?.getD 0), .int .i64 ((sortR l)[r]?.getD 0), .int .i64 ((sortR l)[q]?.getD 0), .int .i64 (sum1 l), .int .u64 (hiW (pairs [] l)), .int .u64 (loW (pairs [] l))] by
    unfold CV colC colOf
    simp only [List.getD_eq_getElem?_getD]
    rw [HQ.out, HR.out])
  skip
  generalize (sortR l)[0]?.getD 0 = x0 at *
  generalize (sortR l)[r]?.getD 0 = x1 at *
  generalize (sortR l)[q]?.getD 0 = x2 at *
  generalize sum1 l = x3 at *
  generalize hiW (pairs [] l) = x4 at *
  generalize loW (pairs [] l) = x5 at *
  refine oneZ 22 (by kernel_rfl) (gi rfl) (fun K hK => ?_)
  try simp only [Act.put, List.setIfInBounds_toArray, List.set_cons_zero, List.set_cons_succ]
  go_simp
  refine hK.out _ _ (fun h => absurd h (by decide)) (fun hH => ?_)
  clear hK K
  try simp only [Act.put, List.setIfInBounds_toArray, List.set_cons_zero, List.set_cons_succ]
  refine doneZ (by kernel_rfl) ?_ _
  clear hH
  go_wp2
  refine bodyPost_ret (v := .agg #[.int .i64 x0, .int .i64 x1, .int .i64 x2, .int .i64 x3, .int .u64 x4, .int .u64 x5]) (by simp [results, Tryz.results33, go_sem, *]) rfl ?_
  refine ⟨by rw [HCV.out], ?_⟩
  have st : ∀ (X : World) (j : Nat) (u : Value), Below w.heap.size w X → Below w.heap.size w (X.setCell ⟨w.heap.size, j, none⟩ u) := fun X j u h => h.setCell (p := ⟨w.heap.size, j, none⟩) (Nat.le_refl _) u
  exact st _ _ _ (st _ _ _ (st _ _ _ (st _ _ _ (st _ _ _ (st _ _ _ HB4.out)))))
end Go.Proofs.YtodiipkedhfncaaGreatDoor.ColW
