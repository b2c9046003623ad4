/- The walk of lives() (printed by mklvd.py). -/
import Derived.Test.YtchgfabgighbfaaGreatDoorSamW
import Derived.Test.YtchgfabgighbfaaGreatDoorParD
import Derived.Test.YtchgfabgighbfaaGreatDoorLvdM
namespace Go.Proofs.YtchgfabgighbfaaGreatDoor.LvdW
set_option linter.unusedVariables false
set_option linter.unusedSimpArgs false
open Go.RowKit Go.Shelf Base SeqM ScrM ScrP EqlW LinV TxtM GlbD SchW AskW RgtW RedW ShwW ShoW SamW ParD LvdM

def rr1 (g : Nat) : LnR := ⟨.slice (some ⟨g, 0, none⟩) 2 2, .slice (some ⟨g + 1, 0, none⟩) 2 2, .slice none 0 0, ln1⟩
def rr2 (g : Nat) : LnR := ⟨.slice none 0 0, .slice none 0 0, .slice (some ⟨g + 2, 0, none⟩) 1 1, ln2⟩
theorem fill_two (a b : LnR) : Instr.fill (fun i => some (i * 20, 20)) ((Array.range (2 * 20)).map (zLine.cells[· % zLine.cells.size]!)) [(0, .agg (lnC a).toArray), (1, .agg (lnC b).toArray)] = some ([a, b].flatMap lnC).toArray := by
  obtain ⟨xv, dv, kv, k1, ⟨c0, c1, c2, c3, c4, c5, c6, c7, c8, c9, c10⟩, ⟨a1, a2, a3, a4, a5⟩, dr, n1, kp⟩ := a
  obtain ⟨yv, ev, lv, k2, ⟨d0, d1, d2, d3, d4, d5, d6, d7, d8, d9, d10⟩, ⟨b1, b2, b3, b4, b5⟩, er, n2, lp⟩ := b
  kernel_rfl
theorem wpList_buildTwo {ops : Array Oper} {rest : List Oper} {o : Oper} {a : Act} {w : World} {Q : Exit → Act → World → Prop} (hg : o.guard = none) (x y : Operand) (ho : o.op = .buildSlice 22 2 #[(0, x), (1, y)]) (r1 r2 : LnR) (hx : a.eval x = .agg (lnC r1).toArray) (hy : a.eval y = .agg (lnC r2).toArray)
    (h : wpList Tryz.prog ops Q rest (a.put o.dst (.slice (some ⟨w.heap.size, 0, none⟩) 2 2)) (w.alloc (.cells ([r1, r2].flatMap lnC).toArray 31))) : wpList Tryz.prog ops Q (o :: rest) a w := by
  obtain ⟨il, hil, hz0, hz1, hz4⟩ := info_parts infoL
  refine wpList_buildSlice hg 22 31 2 _ ho ([r1, r2].flatMap lnC).toArray il zLine Tryz.underlying22 hil hz0 (by rw [hz1]; decide) (by rw [hz1]; decide) ?_ h
  rw [hz1]
  simp only [List.map_toArray, List.map_cons, List.map_nil, hx, hy]
  exact fill_two r1 r2
theorem alloc4' (w : World) (a b c d : Obj) : ((((w.alloc a).alloc b).alloc c).alloc d).heap[w.heap.size]? = some a ∧ ((((w.alloc a).alloc b).alloc c).alloc d).heap[w.heap.size + 1]? = some b ∧ ((((w.alloc a).alloc b).alloc c).alloc d).heap[w.heap.size + 2]? = some c ∧ ((((w.alloc a).alloc b).alloc c).alloc d).heap[w.heap.size + 3]? = some d ∧ Below w.heap.size w ((((w.alloc a).alloc b).alloc c).alloc d) := alloc4 w a b c d
/-- a block that is known whole, as a slice -/
theorem seq_blk {α : Type} {k : Nat} {f : α → List Value} (hk : ∀ x, (f x).length = k) {W : World} {g n : Nat} {cs : Array Value} {t : TypeId} {fz : Nat × Nat} (xs : List α) (hn : xs.length = n) (h : W.heap[g]? = some (.cells cs t fz)) (hcs : cs.toList = xs.flatMap f) (hl : n ≤ 100) :
    Seq k f W 0 W.heap.size (.slice (some ⟨g, 0, none⟩) n n) xs := by
  subst hn
  refine ⟨_, _, rfl, Nat.le_refl _, by unfold maxLen; omega, ⟨flat_len hk _, fun _ => ⟨_, rfl, Nat.zero_le _, (Array.getElem?_eq_some_iff.1 h).1, fun j u hu => ?_⟩⟩, fun hh => by cases hh⟩
  have e : (⟨g, 0, none⟩ : Addr).add j = ⟨g, j, none⟩ := by unfold Addr.add; split <;> simp_all
  rw [e]
  have h2 : cs[j]? = some u := by rw [← Array.getElem?_toList, hcs]; exact hu
  simp [World.cell?, h, h2]
theorem two_in {W : World} {g : Nat} (h0 : W.heap[g]? = some (.cells #[.int .i64 1, .int .i64 (-2)] 3 (0, 0))) (h1 : W.heap[g + 1]? = some (.cells #[.int .u64 7, .int .u64 9] 44 (0, 0))) (h2 : W.heap[g + 2]? = some (.cells #[.int .i64 3, .int .i64 64] 46 (0, 0))) :
    ∀ r ∈ [rr1 g, rr2 g], LnIn W 0 W.heap.size r := by
  intro r hr
  simp only [List.mem_cons, List.not_mem_nil, or_false] at hr
  rcases hr with rfl | rfl
  · exact ⟨seq_blk inC_len [1, -2] rfl h0 rfl (by decide), seq_blk u6C_len [7, 9] rfl h1 rfl (by decide), Seq.nil_⟩
  · exact ⟨Seq.nil_, Seq.nil_, seq_blk kpC_len [(3, 64)] rfl h2 rfl (by decide)⟩
theorem two_small (g : Nat) : ∀ r ∈ [rr1 g, rr2 g], small r := by
  intro r hr
  simp only [List.mem_cons, List.not_mem_nil, or_false] at hr
  rcases hr with rfl | rfl
  · exact ⟨by show (0 : Int) ≤ _; decide, by show ∀ x ∈ [7, 9], x < 18446744073709551616; decide⟩
  · exact ⟨by show (0 : Int) ≤ _; decide, by show ∀ x ∈ ([] : List Nat), x < 18446744073709551616; simp⟩
theorem two_oc (g : Nat) : (lnC (rr1 g)).all (·.oneCell') = true ∧ (lnC (rr2 g)).all (·.oneCell') = true := ⟨rfl, rfl⟩
theorem cells_add {W : World} {g : Nat} {L : List LnR} {t : TypeId} {fz : Nat × Nat} (h : W.heap[g]? = some (.cells (L.flatMap lnC).toArray t fz)) {i : Nat} {r : LnR} (hr : L[i]? = some r) : ∀ j v, (lnC r)[j]? = some v → W.cell? ((⟨g, i * 20, none⟩ : Addr).add j) = some v := fun j v hj => by
  have e : (⟨g, i * 20, none⟩ : Addr).add j = ⟨g, i * 20 + j, none⟩ := by unfold Addr.add; split <;> simp_all
  rw [e]
  exact cell_of h (by simpa using flat_at lnC_len L i r j v hr hj)
set_option maxHeartbeats 16000000 in
set_option maxRecDepth 100000 in
theorem lives_any (w : World) (hG : G w) : Calls Tryz.prog 6 #[] w fun e w' => e = .returned (.bool true) ∧ Below w.heap.size w w' := by
  have HG := Lib.hid hG
  have HA4 := Lib.hid (alloc4' w (.cells #[.int .i64 1, .int .i64 (-2)] 3) (.cells #[.int .u64 7, .int .u64 9] 44) (.cells #[.int .i64 3, .int .i64 64] 46) (.cells (lnC (rr1 w.heap.size) ++ lnC (rr2 w.heap.size)).toArray 31))
  clear hG
  go_enter Tryz.func6, Tryz.ntmps6
  go_wp2_with (refine (id ?_ : wpList _ _ _ (⟨some 17, .buildSlice _ _ _, _, _, _, _⟩ :: _) _ _); refine wpList_buildTwo rfl (.tmp 13) (.tmp 16) rfl (rr1 w.heap.size) (rr2 w.heap.size) (by rfl) (by rfl) ?_)
  obtain ⟨Wa, hWa⟩ : ∃ Wa, (((w.alloc (.cells #[.int .i64 1, .int .i64 (-2)] 3)).alloc (.cells #[.int .u64 7, .int .u64 9] 44)).alloc (.cells #[.int .i64 3, .int .i64 64] 46)).alloc (.cells (lnC (rr1 w.heap.size) ++ lnC (rr2 w.heap.size)).toArray 31) = Wa := ⟨_, rfl⟩
  rw [hWa] at HA4 ⊢
  obtain ⟨g0, g1, g2, g3, hb⟩ := HA4.out
  obtain ⟨g, hg⟩ : ∃ g, w.heap.size = g := ⟨_, rfl⟩
  have HB := Lib.hid hb
  rw [hg] at g0 g1 g2 g3 ⊢
  rw [show g + 1 + 1 + 1 = g + 3 from rfl]
  have g3 : Wa.heap[g + 3]? = some (.cells ([rr1 g, rr2 g].flatMap lnC).toArray 31 (0, 0)) := by simpa using g3
  have hgz : g + 3 < Wa.heap.size := (Array.getElem?_eq_some_iff.1 g3).1
  have HIN := Lib.hid (two_in g0 g1 g2)
  have HSQ := Lib.hid (seq_blk (n := 2) lnC_len [rr1 g, rr2 g] rfl g3 (by simp) (by decide))
  have HC1 := Lib.hid (cells_add g3 (i := 0) (r := rr1 g) rfl)
  have HC2 := Lib.hid (cells_add g3 (i := 1) (r := rr2 g) rfl)
  clear HA4 hWa g0 g1 g2 g3 hb hg
  refine (Show_any _ [rr1 g, rr2 g] 0 Wa (HG.out.below HB.out) HSQ.out HIN.out (two_small g)).mono ?_
  rintro e W1 ⟨t, f, rfl, hs, hb1⟩
  obtain ⟨rfl, rfl⟩ : t = s0 ∧ f = 0 := by have := show12; rw [show [ln1, ln2] = [rr1 g, rr2 g].map (·.ln) from rfl, hs] at this; simpa using this
  have HB1 := Lib.hid hb1
  clear hs hb1
  go_wp2_with fail
  refine (Parse_any s0 (by decide) W1 (HG.out.below (bt HB1.out HB.out))).mono ?_
  rintro e W2 ⟨L, v, k, f, rfl, hp, hl, hb2⟩
  rw [parse12] at hp
  simp only [Prod.mk.injEq] at hp
  obtain ⟨hp1, rfl, rfl⟩ := hp
  obtain ⟨q1, q2, rfl⟩ : ∃ q1 q2, L = [q1, q2] := by
    match L, hp1 with
    | [a, b], _ => exact ⟨a, b, rfl⟩
    | [], h => simp at h
    | [_], h => simp at h
    | _ :: _ :: _ :: _, h => simp at h
  simp only [List.map_cons, List.map_nil, List.cons.injEq, and_true] at hp1
  have HQ1 := Lib.hid hp1.1.symm
  have HQ2 := Lib.hid hp1.2.symm
  have HB2 := Lib.hid (bt hb2 HB1.out)
  have HLN := Lib.hid hl
  clear hp1 hb2 hl
  go_wp2_with fail
  refine (Parse_any s1 (by decide) W2 (HG.out.below (bt HB2.out HB.out))).mono ?_
  rintro e W3 ⟨L3, v3, k3, f3, rfl, hp, hl, hb3⟩
  rw [parse_s1] at hp
  simp only [Prod.mk.injEq] at hp
  obtain ⟨_, rfl, rfl⟩ := hp
  have HB3 := Lib.hid (bt hb3 HB2.out)
  have HLN3 := Lib.hid (HLN.out.below hb3)
  clear hl hb3
  obtain ⟨mA, mc, rfl⟩ := slice_of HLN3.out.own
  obtain ⟨ma, rfl, mcell⟩ : ∃ ma, mA = some ⟨ma, 0, none⟩ ∧ W3.heap[ma]?.isSome = true ∧ ∀ j v, (lnC q1)[j]? = some v → W3.cell? ((⟨ma, 0 * 20, none⟩ : Addr).add j) = some v := by
    obtain ⟨A9, c9, e9, _, _, hr9, _⟩ := Seq.of_own HLN3.out.own
    obtain ⟨g9, cap9, cur9, e10, _, e11, _⟩ := (HLN3.out.own.2).resolve_left (fun h => by have := h.2; simp at this)
    cases e9
    cases e10
    obtain ⟨ad, x, e12, _, _, hx, hc⟩ := rdL hr9 (i := 0) (by simp)
    obtain rfl := Option.some.inj e12
    obtain rfl : q1 = x := by simpa using hx
    refine ⟨g9, rfl, by rw [e11]; rfl, fun j v hj => ?_⟩
    exact hc j v hj
  have HM := Lib.hid mcell.2
  have HI3 := Lib.hid (fun W (hb : Below W3.heap.size W3 W) r hr => (HIN.out r hr).up (bt hb HB3.out))
  have HLM := Lib.hid (fun W (hb : Below W3.heap.size W3 W) => HLN3.out.below hb)
  have HK := Lib.hid (show (fun w' => (∀ j v, (lnC (rr1 g))[j]? = some v → w'.cell? ((⟨g + 3, 0 * 20, none⟩ : Addr).add j) = some v) ∧ (∀ j v, (lnC (rr2 g))[j]? = some v → w'.cell? ((⟨g + 3, 1 * 20, none⟩ : Addr).add j) = some v) ∧ (∀ j v, (lnC q1)[j]? = some v → w'.cell? ((⟨ma, 0 * 20, none⟩ : Addr).add j) = some v)) W3 from ⟨fun j v h => keepA HB3.out (HC1.out j v h), fun j v h => keepA HB3.out (HC2.out j v h), HM.out⟩)
  have hgz3 : g + 3 < W3.heap.size := by have := HB3.out.size; omega
  clear mcell
  go_wp2_with fail
  have HALL := Lib.hid (all_yes (a := [rr1 g, rr2 g].map (·.ln)) (b := [q1, q2].map (·.ln)) (by simp only [List.map_cons, List.map_nil, HQ1.out, HQ2.out]; rfl))
  refine wp_region_held_drew (S := (fun w' => (∀ j v, (lnC (rr1 g))[j]? = some v → w'.cell? ((⟨g + 3, 0 * 20, none⟩ : Addr).add j) = some v) ∧ (∀ j v, (lnC (rr2 g))[j]? = some v → w'.cell? ((⟨g + 3, 1 * 20, none⟩ : Addr).add j) = some v) ∧ (∀ j v, (lnC q1)[j]? = some v → w'.cell? ((⟨ma, 0 * 20, none⟩ : Addr).add j) = some v))) (by kernel_rfl) ?_ (fun hHeld => ?_)
  · exact HK.out
  refine wpAnyH_take (i := 0) (oi := ?oi0_1) (v := ?v0_1) ?hi0_1 (by kernel_rfl) ?hf0_1 (by kernel_rfl) ?hq0_1 ?hy0_1 hHeld ?rest0_1
  case hi0_1 => (simp only [List.getElem?_toArray, List.getElem?_cons_zero]; try exact rfl)
  case hf0_1 => kernel_rfl
  case hq0_1 => exact fun _ _ _ h => h
  case hy0_1 => (refine Or.inl ⟨rfl, ?_⟩; intro w hSw; (try dsimp only at hSw); go_simp; try with_reducible rfl)
  try simp only [Act.put, List.setIfInBounds_toArray, List.set_cons_zero, List.set_cons_succ]
  refine wpAnyH_take (i := 1) (oi := ?oi1_2) (v := ?v1_2) ?hi1_2 (by kernel_rfl) ?hf1_2 (by kernel_rfl) ?hq1_2 ?hy1_2 hHeld ?rest1_2
  case hi1_2 => (simp only [List.getElem?_toArray, List.getElem?_cons_succ, List.getElem?_cons_zero]; try exact rfl)
  case hf1_2 => kernel_rfl
  case hq1_2 => exact fun _ _ _ h => h
  case hy1_2 => (refine Or.inl ⟨rfl, ?_⟩; intro w hSw; (try dsimp only at hSw); go_simp; try with_reducible rfl)
  try simp only [Act.put, List.setIfInBounds_toArray, List.set_cons_zero, List.set_cons_succ]
  refine wpAnyH_take (i := 2) (oi := ?oi2_3) (v := ?v2_3) ?hi2_3 (by kernel_rfl) ?hf2_3 (by kernel_rfl) ?hq2_3 ?hy2_3 hHeld ?rest2_3
  case hi2_3 => (simp only [List.getElem?_toArray, List.getElem?_cons_succ, List.getElem?_cons_zero]; try exact rfl)
  case hf2_3 => kernel_rfl
  case hq2_3 => exact fun _ _ _ h => h
  case hy2_3 => (refine Or.inl ⟨rfl, ?_⟩; intro w hSw; (try dsimp only at hSw); go_simp; try with_reducible rfl)
  try simp only [Act.put, List.setIfInBounds_toArray, List.set_cons_zero, List.set_cons_succ]
  refine wpAnyH_take (i := 3) (oi := ?oi3_4) (v := ?v3_4) ?hi3_4 (by kernel_rfl) ?hf3_4 (by kernel_rfl) ?hq3_4 ?hy3_4 hHeld ?rest3_4
  case hi3_4 => (simp only [List.getElem?_toArray, List.getElem?_cons_succ, List.getElem?_cons_zero]; try exact rfl)
  case hf3_4 => kernel_rfl
  case hq3_4 => exact fun _ _ _ h => h
  case hy3_4 => (refine Or.inl ⟨rfl, ?_⟩; intro w hSw; (try dsimp only at hSw); go_simp; try with_reducible rfl)
  try simp only [Act.put, List.setIfInBounds_toArray, List.set_cons_zero, List.set_cons_succ]
  refine wpAnyH_take (i := 4) (oi := ?oi4_5) (v := ?v4_5) ?hi4_5 (by kernel_rfl) ?hf4_5 (by kernel_rfl) ?hq4_5 ?hy4_5 hHeld ?rest4_5
  case hi4_5 => (simp only [List.getElem?_toArray, List.getElem?_cons_succ, List.getElem?_cons_zero]; try exact rfl)
  case hf4_5 => kernel_rfl
  case hq4_5 => exact fun _ _ _ h => h
  case hy4_5 => (refine Or.inl ⟨rfl, ?_⟩; intro w hSw; (try dsimp only at hSw); go_simp; try with_reducible rfl)
  try simp only [Act.put, List.setIfInBounds_toArray, List.set_cons_zero, List.set_cons_succ]
  refine wpAnyH_take (i := 5) (oi := ?oi5_6) (v := ?v5_6) ?hi5_6 (by kernel_rfl) ?hf5_6 (by kernel_rfl) ?hq5_6 ?hy5_6 hHeld ?rest5_6
  case hi5_6 => (simp only [List.getElem?_toArray, List.getElem?_cons_succ, List.getElem?_cons_zero]; try exact rfl)
  case hf5_6 => kernel_rfl
  case hq5_6 => exact fun _ _ _ h => h
  case hy5_6 => (refine Or.inl ⟨rfl, ?_⟩; intro w hSw; (try dsimp only at hSw); go_simp; try with_reducible rfl)
  try simp only [Act.put, List.setIfInBounds_toArray, List.set_cons_zero, List.set_cons_succ]
  refine wpAnyH_take (i := 6) (oi := ?oi6_7) (v := ?v6_7) ?hi6_7 (by kernel_rfl) ?hf6_7 (by kernel_rfl) ?hq6_7 ?hy6_7 hHeld ?rest6_7
  case hi6_7 => (simp only [List.getElem?_toArray, List.getElem?_cons_succ, List.getElem?_cons_zero]; try exact rfl)
  case hf6_7 => kernel_rfl
  case hq6_7 => exact fun _ _ _ h => h
  case hy6_7 => (refine Or.inl ⟨rfl, ?_⟩; intro w hSw; (try dsimp only at hSw); go_simp; try with_reducible rfl)
  try simp only [Act.put, List.setIfInBounds_toArray, List.set_cons_zero, List.set_cons_succ]
  refine wpAnyH_take (i := 7) (oi := ?oi7_8) (v := ?v7_8) ?hi7_8 (by kernel_rfl) ?hf7_8 (by kernel_rfl) ?hq7_8 ?hy7_8 hHeld ?rest7_8
  case hi7_8 => (simp only [List.getElem?_toArray, List.getElem?_cons_succ, List.getElem?_cons_zero]; try exact rfl)
  case hf7_8 => kernel_rfl
  case hq7_8 => exact fun _ _ _ h => h
  case hy7_8 => (refine Or.inl ⟨rfl, ?_⟩; intro w hSw; (try dsimp only at hSw); go_simp; try with_reducible rfl)
  try simp only [Act.put, List.setIfInBounds_toArray, List.set_cons_zero, List.set_cons_succ]
  refine wpAnyH_take (i := 8) (oi := ?oi8_9) (v := ?v8_9) ?hi8_9 (by kernel_rfl) ?hf8_9 (by kernel_rfl) ?hq8_9 ?hy8_9 hHeld ?rest8_9
  case hi8_9 => (simp only [List.getElem?_toArray, List.getElem?_cons_succ, List.getElem?_cons_zero]; try exact rfl)
  case hf8_9 => kernel_rfl
  case hq8_9 => exact fun _ _ _ h => h
  case hy8_9 => (refine Or.inl ⟨rfl, ?_⟩; intro w hSw; (try dsimp only at hSw); go_simp; try with_reducible rfl)
  try simp only [Act.put, List.setIfInBounds_toArray, List.set_cons_zero, List.set_cons_succ]
  refine wpAnyH_ready (rs := [9]) (by kernel_rfl) (by simp) ?_
  refine AllReadyH.cons (by simp only [List.getElem?_toArray, List.getElem?_cons_succ, List.getElem?_cons_zero]; try exact rfl) (fun K hK => ?_) AllReadyH.nil
  go_simp
  refine (SameAll_any _ _ [rr1 g, rr2 g] [q1, q2] 0 0 W3.drew ((HSQ.out.up HB3.out).below (Below.refl _ _).drew) (((Seq.of_own (HLM.out W3.drew (Below.refl _ _).drew).own)).more (Nat.zero_le _) (Nat.le_refl _)) (HI3.out _ (Below.refl _ _).drew) (fun r hr => ((HLM.out W3.drew (Below.refl _ _).drew).each r hr).toIn.more (Nat.zero_le _) (Nat.le_refl _))).mono ?_
  rintro e X1 ⟨rfl, hx1⟩
  rw [HALL.out]
  have D1 := Lib.hid (show Below W3.heap.size W3 X1 from (Below.refl _ _).drew.trans hx1)
  clear hx1
  refine hK.out _ _ ⟨fun j v h => keepA D1.out (HK.out.1 j v h), fun j v h => keepA D1.out (HK.out.2.1 j v h), fun j v h => keepA D1.out (HK.out.2.2 j v h)⟩ (fun hHeld => ?_)
  clear hK K
  try simp only [Act.put, List.setIfInBounds_toArray, List.set_cons_zero, List.set_cons_succ]
  refine wpAnyH_take (i := 10) (oi := ?oi10_10) (v := ?v10_10) ?hi10_10 (by kernel_rfl) ?hf10_10 (by kernel_rfl) ?hq10_10 ?hy10_10 hHeld ?rest10_10
  case hi10_10 => (simp only [List.getElem?_toArray, List.getElem?_cons_succ, List.getElem?_cons_zero]; try exact rfl)
  case hf10_10 => kernel_rfl
  case hq10_10 => exact fun _ _ _ h => h
  case hy10_10 => (refine Or.inl ⟨rfl, ?_⟩; intro w hSw; (try dsimp only at hSw); go_simp; try with_reducible rfl)
  try simp only [Act.put, List.setIfInBounds_toArray, List.set_cons_zero, List.set_cons_succ]
  refine wpAnyH_take (i := 11) (oi := ?oi11_11) (v := ?v11_11) ?hi11_11 (by kernel_rfl) ?hf11_11 (by kernel_rfl) ?hq11_11 ?hy11_11 hHeld ?rest11_11
  case hi11_11 => (simp only [List.getElem?_toArray, List.getElem?_cons_succ, List.getElem?_cons_zero]; try exact rfl)
  case hf11_11 => kernel_rfl
  case hq11_11 => exact fun _ _ _ h => h
  case hy11_11 => (refine Or.inl ⟨rfl, ?_⟩; intro w hSw; (try dsimp only at hSw); go_simp; try with_reducible rfl)
  try simp only [Act.put, List.setIfInBounds_toArray, List.set_cons_zero, List.set_cons_succ]
  refine wpAnyH_take (i := 12) (oi := ?oi12_12) (v := ?v12_12) ?hi12_12 (by kernel_rfl) ?hf12_12 (by kernel_rfl) ?hq12_12 ?hy12_12 hHeld ?rest12_12
  case hi12_12 => (simp only [List.getElem?_toArray, List.getElem?_cons_succ, List.getElem?_cons_zero]; try exact rfl)
  case hf12_12 => kernel_rfl
  case hq12_12 => exact fun _ _ _ h => h
  case hy12_12 => (refine Or.inl ⟨rfl, ?_⟩; intro w hSw; (try dsimp only at hSw); go_simp; try with_reducible rfl)
  try simp only [Act.put, List.setIfInBounds_toArray, List.set_cons_zero, List.set_cons_succ]
  refine wpAnyH_take (i := 13) (oi := ?oi13_13) (v := ?v13_13) ?hi13_13 (by kernel_rfl) ?hf13_13 (by kernel_rfl) ?hq13_13 ?hy13_13 hHeld ?rest13_13
  case hi13_13 => (simp only [List.getElem?_toArray, List.getElem?_cons_succ, List.getElem?_cons_zero]; try exact rfl)
  case hf13_13 => kernel_rfl
  case hq13_13 => exact fun _ _ _ h => h
  case hy13_13 => (refine Or.inl ⟨rfl, ?_⟩; intro w hSw; (try dsimp only at hSw); go_simp; try with_reducible rfl)
  try simp only [Act.put, List.setIfInBounds_toArray, List.set_cons_zero, List.set_cons_succ]
  refine wpAnyH_take (i := 14) (oi := ?oi14_14) (v := ?v14_14) ?hi14_14 (by kernel_rfl) ?hf14_14 (by kernel_rfl) ?hq14_14 ?hy14_14 hHeld ?rest14_14
  case hi14_14 => (simp only [List.getElem?_toArray, List.getElem?_cons_succ, List.getElem?_cons_zero]; try exact rfl)
  case hf14_14 => kernel_rfl
  case hq14_14 => exact fun _ _ _ h => h
  case hy14_14 => (refine Or.inl ⟨rfl, ?_⟩; intro w hSw; (try dsimp only at hSw); go_simp; try with_reducible rfl)
  try simp only [Act.put, List.setIfInBounds_toArray, List.set_cons_zero, List.set_cons_succ]
  refine wpAnyH_take (i := 15) (oi := ?oi15_15) (v := ?v15_15) ?hi15_15 (by kernel_rfl) ?hf15_15 (by kernel_rfl) ?hq15_15 ?hy15_15 hHeld ?rest15_15
  case hi15_15 => (simp only [List.getElem?_toArray, List.getElem?_cons_succ, List.getElem?_cons_zero]; try exact rfl)
  case hf15_15 => kernel_rfl
  case hq15_15 => exact fun _ _ _ h => h
  case hy15_15 => (refine Or.inl ⟨rfl, ?_⟩; intro w hSw; (try dsimp only at hSw); go_simp; try with_reducible rfl)
  try simp only [Act.put, List.setIfInBounds_toArray, List.set_cons_zero, List.set_cons_succ]
  refine wpAnyH_take (i := 16) (oi := ?oi16_16) (v := ?v16_16) ?hi16_16 (by kernel_rfl) ?hf16_16 (by kernel_rfl) ?hq16_16 ?hy16_16 hHeld ?rest16_16
  case hi16_16 => (simp only [List.getElem?_toArray, List.getElem?_cons_succ, List.getElem?_cons_zero]; try exact rfl)
  case hf16_16 => kernel_rfl
  case hq16_16 => exact fun _ _ _ h => h
  case hy16_16 => (refine Or.inl ⟨rfl, ?_⟩; intro w hSw; (try dsimp only at hSw); go_simp; try with_reducible rfl)
  try simp only [Act.put, List.setIfInBounds_toArray, List.set_cons_zero, List.set_cons_succ]
  refine wpAnyH_take (i := 17) (oi := ?oi17_17) (v := ?v17_17) ?hi17_17 (by kernel_rfl) ?hf17_17 (by kernel_rfl) ?hq17_17 ?hy17_17 hHeld ?rest17_17
  case hi17_17 => (simp only [List.getElem?_toArray, List.getElem?_cons_succ, List.getElem?_cons_zero]; try exact rfl)
  case hf17_17 => kernel_rfl
  case hq17_17 => exact fun _ _ _ h => h
  case hy17_17 => (refine Or.inl ⟨rfl, ?_⟩; intro w hSw; (try dsimp only at hSw); go_simp; try with_reducible rfl)
  try simp only [Act.put, List.setIfInBounds_toArray, List.set_cons_zero, List.set_cons_succ]
  refine wpAnyH_take (i := 18) (oi := ?oi18_18) (v := ?v18_18) ?hi18_18 (by kernel_rfl) ?hf18_18 (by kernel_rfl) ?hq18_18 ?hy18_18 hHeld ?rest18_18
  case hi18_18 => (simp only [List.getElem?_toArray, List.getElem?_cons_succ, List.getElem?_cons_zero]; try exact rfl)
  case hf18_18 => kernel_rfl
  case hq18_18 => exact fun _ _ _ h => h
  case hy18_18 => (refine Or.inl ⟨rfl, ?_⟩; intro w hSw; (try dsimp only at hSw); go_simp; try with_reducible rfl)
  try simp only [Act.put, List.setIfInBounds_toArray, List.set_cons_zero, List.set_cons_succ]
  refine wpAnyH_take (i := 19) (oi := ?oi19_19) (v := ?v19_19) ?hi19_19 (by kernel_rfl) ?hf19_19 (by kernel_rfl) ?hq19_19 ?hy19_19 hHeld ?rest19_19
  case hi19_19 => (simp only [List.getElem?_toArray, List.getElem?_cons_succ, List.getElem?_cons_zero]; try exact rfl)
  case hf19_19 => kernel_rfl
  case hq19_19 => exact fun _ _ _ h => h
  case hy19_19 => (refine Or.inl ⟨rfl, ?_⟩; intro w hSw; (try dsimp only at hSw); go_simp; try with_reducible rfl)
  try simp only [Act.put, List.setIfInBounds_toArray, List.set_cons_zero, List.set_cons_succ]
  refine wpAnyH_take (i := 20) (oi := ?oi20_20) (v := ?v20_20) ?hi20_20 (by kernel_rfl) ?hf20_20 (by kernel_rfl) ?hq20_20 ?hy20_20 hHeld ?rest20_20
  case hi20_20 => (simp only [List.getElem?_toArray, List.getElem?_cons_succ, List.getElem?_cons_zero]; try exact rfl)
  case hf20_20 => kernel_rfl
  case hq20_20 => exact fun _ _ _ h => h
  case hy20_20 => (refine Or.inl ⟨rfl, ?_⟩; intro w hSw; (try dsimp only at hSw); go_simp; try with_reducible rfl)
  try simp only [Act.put, List.setIfInBounds_toArray, List.set_cons_zero, List.set_cons_succ]
  refine wpAnyH_take (i := 21) (oi := ?oi21_21) (v := ?v21_21) ?hi21_21 (by kernel_rfl) ?hf21_21 (by kernel_rfl) ?hq21_21 ?hy21_21 hHeld ?rest21_21
  case hi21_21 => (simp only [List.getElem?_toArray, List.getElem?_cons_succ, List.getElem?_cons_zero]; try exact rfl)
  case hf21_21 => kernel_rfl
  case hq21_21 => exact fun _ _ _ h => h
  case hy21_21 => (refine Or.inl ⟨rfl, ?_⟩; intro w hSw; (try dsimp only at hSw); go_simp; try with_reducible rfl)
  try simp only [Act.put, List.setIfInBounds_toArray, List.set_cons_zero, List.set_cons_succ]
  refine wpAnyH_take (i := 22) (oi := ?oi22_22) (v := ?v22_22) ?hi22_22 (by kernel_rfl) ?hf22_22 (by kernel_rfl) ?hq22_22 ?hy22_22 hHeld ?rest22_22
  case hi22_22 => (simp only [List.getElem?_toArray, List.getElem?_cons_succ, List.getElem?_cons_zero]; try exact rfl)
  case hf22_22 => kernel_rfl
  case hq22_22 => exact fun _ _ _ h => h
  case hy22_22 => (refine Or.inl ⟨rfl, ?_⟩; intro w hSw; (try dsimp only at hSw); go_simp; try with_reducible rfl)
  try simp only [Act.put, List.setIfInBounds_toArray, List.set_cons_zero, List.set_cons_succ]
  refine wpAnyH_take (i := 23) (oi := ?oi23_23) (v := ?v23_23) ?hi23_23 (by kernel_rfl) ?hf23_23 (by kernel_rfl) ?hq23_23 ?hy23_23 hHeld ?rest23_23
  case hi23_23 => (simp only [List.getElem?_toArray, List.getElem?_cons_succ, List.getElem?_cons_zero]; try exact rfl)
  case hf23_23 => kernel_rfl
  case hq23_23 => exact fun _ _ _ h => h
  case hy23_23 => (refine Or.inl ⟨rfl, ?_⟩; intro w hSw; (try dsimp only at hSw); go_simp; try with_reducible rfl)
  try simp only [Act.put, List.setIfInBounds_toArray, List.set_cons_zero, List.set_cons_succ]
  refine wpAnyH_take (i := 24) (oi := ?oi24_24) (v := ?v24_24) ?hi24_24 (by kernel_rfl) ?hf24_24 (by kernel_rfl) ?hq24_24 ?hy24_24 hHeld ?rest24_24
  case hi24_24 => (simp only [List.getElem?_toArray, List.getElem?_cons_succ, List.getElem?_cons_zero]; try exact rfl)
  case hf24_24 => kernel_rfl
  case hq24_24 => exact fun _ _ _ h => h
  case hy24_24 => (refine Or.inl ⟨rfl, ?_⟩; intro w hSw; (try dsimp only at hSw); go_simp; try with_reducible rfl)
  try simp only [Act.put, List.setIfInBounds_toArray, List.set_cons_zero, List.set_cons_succ]
  refine wpAnyH_take (i := 25) (oi := ?oi25_25) (v := ?v25_25) ?hi25_25 (by kernel_rfl) ?hf25_25 (by kernel_rfl) ?hq25_25 ?hy25_25 hHeld ?rest25_25
  case hi25_25 => (simp only [List.getElem?_toArray, List.getElem?_cons_succ, List.getElem?_cons_zero]; try exact rfl)
  case hf25_25 => kernel_rfl
  case hq25_25 => exact fun _ _ _ h => h
  case hy25_25 => (refine Or.inl ⟨rfl, ?_⟩; intro w hSw; (try dsimp only at hSw); go_simp; try with_reducible rfl)
  try simp only [Act.put, List.setIfInBounds_toArray, List.set_cons_zero, List.set_cons_succ]
  refine wpAnyH_take (i := 26) (oi := ?oi26_26) (v := ?v26_26) ?hi26_26 (by kernel_rfl) ?hf26_26 (by kernel_rfl) ?hq26_26 ?hy26_26 hHeld ?rest26_26
  case hi26_26 => (simp only [List.getElem?_toArray, List.getElem?_cons_succ, List.getElem?_cons_zero]; try exact rfl)
  case hf26_26 => kernel_rfl
  case hq26_26 => exact fun _ _ _ h => h
  case hy26_26 => (refine Or.inl ⟨rfl, ?_⟩; intro w hSw; (try dsimp only at hSw); go_simp; try with_reducible rfl)
  try simp only [Act.put, List.setIfInBounds_toArray, List.set_cons_zero, List.set_cons_succ]
  refine wpAnyH_take (i := 27) (oi := ?oi27_27) (v := ?v27_27) ?hi27_27 (by kernel_rfl) ?hf27_27 (by kernel_rfl) ?hq27_27 ?hy27_27 hHeld ?rest27_27
  case hi27_27 => (simp only [List.getElem?_toArray, List.getElem?_cons_succ, List.getElem?_cons_zero]; try exact rfl)
  case hf27_27 => kernel_rfl
  case hq27_27 => exact fun _ _ _ h => h
  case hy27_27 => (refine Or.inl ⟨rfl, ?_⟩; intro w hSw; (try dsimp only at hSw); go_simp; try with_reducible rfl)
  try simp only [Act.put, List.setIfInBounds_toArray, List.set_cons_zero, List.set_cons_succ]
  refine wpAnyH_take (i := 28) (oi := ?oi28_28) (v := ?v28_28) ?hi28_28 (by kernel_rfl) ?hf28_28 (by kernel_rfl) ?hq28_28 ?hy28_28 hHeld ?rest28_28
  case hi28_28 => (simp only [List.getElem?_toArray, List.getElem?_cons_succ, List.getElem?_cons_zero]; try exact rfl)
  case hf28_28 => kernel_rfl
  case hq28_28 => exact fun _ _ _ h => h
  case hy28_28 => (refine Or.inl ⟨rfl, ?_⟩; intro w hSw; (try dsimp only at hSw); go_simp; try with_reducible rfl)
  try simp only [Act.put, List.setIfInBounds_toArray, List.set_cons_zero, List.set_cons_succ]
  refine wpAnyH_take (i := 29) (oi := ?oi29_29) (v := ?v29_29) ?hi29_29 (by kernel_rfl) ?hf29_29 (by kernel_rfl) ?hq29_29 ?hy29_29 hHeld ?rest29_29
  case hi29_29 => (simp only [List.getElem?_toArray, List.getElem?_cons_succ, List.getElem?_cons_zero]; try exact rfl)
  case hf29_29 => kernel_rfl
  case hq29_29 => exact fun _ _ _ h => h
  case hy29_29 => (refine Or.inl ⟨rfl, ?_⟩; intro w hSw; (try dsimp only at hSw); go_simp; try with_reducible rfl)
  try simp only [Act.put, List.setIfInBounds_toArray, List.set_cons_zero, List.set_cons_succ]
  refine wpAnyH_take (i := 30) (oi := ?oi30_30) (v := ?v30_30) ?hi30_30 (by kernel_rfl) ?hf30_30 (by kernel_rfl) ?hq30_30 ?hy30_30 hHeld ?rest30_30
  case hi30_30 => (simp only [List.getElem?_toArray, List.getElem?_cons_succ, List.getElem?_cons_zero]; try exact rfl)
  case hf30_30 => kernel_rfl
  case hq30_30 => exact fun _ _ _ h => h
  case hy30_30 => (refine yieldsIf_load_at ?_ 31 (.tmp 63) ?_ (⟨g + 3, 0 * 20, none⟩) ?_ (lnC (rr1 g)) _ ?_ Tryz.underlying31 rfl (by kernel_rfl) <;> first | exact fun _ h => h.1 | rfl)
  try simp only [Act.put, List.setIfInBounds_toArray, List.set_cons_zero, List.set_cons_succ]
  refine wpAnyH_ready (rs := [31]) (by kernel_rfl) (by simp) ?_
  refine AllReadyH.cons (by simp only [List.getElem?_toArray, List.getElem?_cons_succ, List.getElem?_cons_zero]; try exact rfl) (fun K hK => ?_) AllReadyH.nil
  go_simp
  refine (Right_any (rr1 g) 0 X1 (HI3.out _ D1.out _ (by simp)) (two_small g _ (by simp)).1 (two_small g _ (by simp)).2).mono ?_
  rintro e X2 ⟨rfl, hx2⟩
  rw [show (rr1 g).ln = ln1 from rfl, right_yes right1]
  have D2 := Lib.hid (show Below W3.heap.size W3 X2 from bt hx2 D1.out)
  clear hx2
  refine hK.out _ _ ⟨fun j v h => keepA D2.out (HK.out.1 j v h), fun j v h => keepA D2.out (HK.out.2.1 j v h), fun j v h => keepA D2.out (HK.out.2.2 j v h)⟩ (fun hHeld => ?_)
  clear hK K
  try simp only [Act.put, List.setIfInBounds_toArray, List.set_cons_zero, List.set_cons_succ]
  refine wpAnyH_take (i := 32) (oi := ?oi32_31) (v := ?v32_31) ?hi32_31 (by kernel_rfl) ?hf32_31 (by kernel_rfl) ?hq32_31 ?hy32_31 hHeld ?rest32_31
  case hi32_31 => (simp only [List.getElem?_toArray, List.getElem?_cons_succ, List.getElem?_cons_zero]; try exact rfl)
  case hf32_31 => kernel_rfl
  case hq32_31 => exact fun _ _ _ h => h
  case hy32_31 => (refine Or.inl ⟨rfl, ?_⟩; intro w hSw; (try dsimp only at hSw); go_simp; try with_reducible rfl)
  try simp only [Act.put, List.setIfInBounds_toArray, List.set_cons_zero, List.set_cons_succ]
  refine wpAnyH_take (i := 33) (oi := ?oi33_32) (v := ?v33_32) ?hi33_32 (by kernel_rfl) ?hf33_32 (by kernel_rfl) ?hq33_32 ?hy33_32 hHeld ?rest33_32
  case hi33_32 => (simp only [List.getElem?_toArray, List.getElem?_cons_succ, List.getElem?_cons_zero]; try exact rfl)
  case hf33_32 => kernel_rfl
  case hq33_32 => exact fun _ _ _ h => h
  case hy33_32 => (refine Or.inl ⟨rfl, ?_⟩; intro w hSw; (try dsimp only at hSw); go_simp; try with_reducible rfl)
  try simp only [Act.put, List.setIfInBounds_toArray, List.set_cons_zero, List.set_cons_succ]
  refine wpAnyH_take (i := 34) (oi := ?oi34_33) (v := ?v34_33) ?hi34_33 (by kernel_rfl) ?hf34_33 (by kernel_rfl) ?hq34_33 ?hy34_33 hHeld ?rest34_33
  case hi34_33 => (simp only [List.getElem?_toArray, List.getElem?_cons_succ, List.getElem?_cons_zero]; try exact rfl)
  case hf34_33 => kernel_rfl
  case hq34_33 => exact fun _ _ _ h => h
  case hy34_33 => (refine Or.inl ⟨rfl, ?_⟩; intro w hSw; (try dsimp only at hSw); go_simp; try with_reducible rfl)
  try simp only [Act.put, List.setIfInBounds_toArray, List.set_cons_zero, List.set_cons_succ]
  refine wpAnyH_ready (rs := [35]) (by kernel_rfl) (by simp) ?_
  refine AllReadyH.cons (by simp only [List.getElem?_toArray, List.getElem?_cons_succ, List.getElem?_cons_zero]; try exact rfl) (fun K hK => ?_) AllReadyH.nil
  go_simp
  refine (Right_any ⟨.slice none 0 0, .slice none 0 0, .slice none 0 0, ln0 0⟩ 0 X2 (nil_in _ _ ⟨rfl, rfl, rfl⟩) (by show (0 : Int) ≤ _; decide) (by show ∀ x ∈ ([] : List Nat), x < 18446744073709551616; simp)).mono ?_
  rintro e X3 ⟨rfl, hx3⟩
  rw [right_no not0]
  have D3 := Lib.hid (show Below W3.heap.size W3 X3 from bt hx3 D2.out)
  clear hx3
  refine hK.out _ _ ⟨fun j v h => keepA D3.out (HK.out.1 j v h), fun j v h => keepA D3.out (HK.out.2.1 j v h), fun j v h => keepA D3.out (HK.out.2.2 j v h)⟩ (fun hHeld => ?_)
  clear hK K
  try simp only [Act.put, List.setIfInBounds_toArray, List.set_cons_zero, List.set_cons_succ]
  refine wpAnyH_take (i := 36) (oi := ?oi36_34) (v := ?v36_34) ?hi36_34 (by kernel_rfl) ?hf36_34 (by kernel_rfl) ?hq36_34 ?hy36_34 hHeld ?rest36_34
  case hi36_34 => (simp only [List.getElem?_toArray, List.getElem?_cons_succ, List.getElem?_cons_zero]; try exact rfl)
  case hf36_34 => kernel_rfl
  case hq36_34 => exact fun _ _ _ h => h
  case hy36_34 => (refine Or.inl ⟨rfl, ?_⟩; intro w hSw; (try dsimp only at hSw); go_simp; try with_reducible rfl)
  try simp only [Act.put, List.setIfInBounds_toArray, List.set_cons_zero, List.set_cons_succ]
  refine wpAnyH_take (i := 37) (oi := ?oi37_35) (v := ?v37_35) ?hi37_35 (by kernel_rfl) ?hf37_35 (by kernel_rfl) ?hq37_35 ?hy37_35 hHeld ?rest37_35
  case hi37_35 => (simp only [List.getElem?_toArray, List.getElem?_cons_succ, List.getElem?_cons_zero]; try exact rfl)
  case hf37_35 => kernel_rfl
  case hq37_35 => exact fun _ _ _ h => h
  case hy37_35 => (refine Or.inl ⟨rfl, ?_⟩; intro w hSw; (try dsimp only at hSw); go_simp; try with_reducible rfl)
  try simp only [Act.put, List.setIfInBounds_toArray, List.set_cons_zero, List.set_cons_succ]
  refine wpAnyH_take (i := 38) (oi := ?oi38_36) (v := ?v38_36) ?hi38_36 (by kernel_rfl) ?hf38_36 (by kernel_rfl) ?hq38_36 ?hy38_36 hHeld ?rest38_36
  case hi38_36 => (simp only [List.getElem?_toArray, List.getElem?_cons_succ, List.getElem?_cons_zero]; try exact rfl)
  case hf38_36 => kernel_rfl
  case hq38_36 => exact fun _ _ _ h => h
  case hy38_36 => (refine Or.inl ⟨rfl, ?_⟩; intro w hSw; (try dsimp only at hSw); go_simp; try with_reducible rfl)
  try simp only [Act.put, List.setIfInBounds_toArray, List.set_cons_zero, List.set_cons_succ]
  refine wpAnyH_take (i := 39) (oi := ?oi39_37) (v := ?v39_37) ?hi39_37 (by kernel_rfl) ?hf39_37 (by kernel_rfl) ?hq39_37 ?hy39_37 hHeld ?rest39_37
  case hi39_37 => (simp only [List.getElem?_toArray, List.getElem?_cons_succ, List.getElem?_cons_zero]; try exact rfl)
  case hf39_37 => kernel_rfl
  case hq39_37 => exact fun _ _ _ h => h
  case hy39_37 => (refine Or.inl ⟨rfl, ?_⟩; intro w hSw; (try dsimp only at hSw); go_simp; try with_reducible rfl)
  try simp only [Act.put, List.setIfInBounds_toArray, List.set_cons_zero, List.set_cons_succ]
  refine wpAnyH_take (i := 40) (oi := ?oi40_38) (v := ?v40_38) ?hi40_38 (by kernel_rfl) ?hf40_38 (by kernel_rfl) ?hq40_38 ?hy40_38 hHeld ?rest40_38
  case hi40_38 => (simp only [List.getElem?_toArray, List.getElem?_cons_succ, List.getElem?_cons_zero]; try exact rfl)
  case hf40_38 => kernel_rfl
  case hq40_38 => exact fun _ _ _ h => h
  case hy40_38 => (refine Or.inl ⟨rfl, ?_⟩; intro w hSw; (try dsimp only at hSw); go_simp; try with_reducible rfl)
  try simp only [Act.put, List.setIfInBounds_toArray, List.set_cons_zero, List.set_cons_succ]
  refine wpAnyH_take (i := 41) (oi := ?oi41_39) (v := ?v41_39) ?hi41_39 (by kernel_rfl) ?hf41_39 (by kernel_rfl) ?hq41_39 ?hy41_39 hHeld ?rest41_39
  case hi41_39 => (simp only [List.getElem?_toArray, List.getElem?_cons_succ, List.getElem?_cons_zero]; try exact rfl)
  case hf41_39 => kernel_rfl
  case hq41_39 => exact fun _ _ _ h => h
  case hy41_39 => (refine yieldsIf_load_at ?_ 31 (.tmp 74) ?_ (⟨g + 3, 0 * 20, none⟩) ?_ (lnC (rr1 g)) _ ?_ Tryz.underlying31 rfl (by kernel_rfl) <;> first | exact fun _ h => h.1 | rfl)
  try simp only [Act.put, List.setIfInBounds_toArray, List.set_cons_zero, List.set_cons_succ]
  refine wpAnyH_take (i := 42) (oi := ?oi42_40) (v := ?v42_40) ?hi42_40 (by kernel_rfl) ?hf42_40 (by kernel_rfl) ?hq42_40 ?hy42_40 hHeld ?rest42_40
  case hi42_40 => (simp only [List.getElem?_toArray, List.getElem?_cons_succ, List.getElem?_cons_zero]; try exact rfl)
  case hf42_40 => kernel_rfl
  case hq42_40 => exact fun _ _ _ h => h
  case hy42_40 => (refine Or.inl ⟨rfl, ?_⟩; intro w hSw; (try dsimp only at hSw); go_simp; try with_reducible rfl)
  try simp only [Act.put, List.setIfInBounds_toArray, List.set_cons_zero, List.set_cons_succ]
  refine wpAnyH_take (i := 43) (oi := ?oi43_41) (v := ?v43_41) ?hi43_41 (by kernel_rfl) ?hf43_41 (by kernel_rfl) ?hq43_41 ?hy43_41 hHeld ?rest43_41
  case hi43_41 => (simp only [List.getElem?_toArray, List.getElem?_cons_succ, List.getElem?_cons_zero]; try exact rfl)
  case hf43_41 => kernel_rfl
  case hq43_41 => exact fun _ _ _ h => h
  case hy43_41 => (refine Or.inl ⟨rfl, ?_⟩; intro w hSw; (try dsimp only at hSw); go_simp; try with_reducible rfl)
  try simp only [Act.put, List.setIfInBounds_toArray, List.set_cons_zero, List.set_cons_succ]
  refine wpAnyH_take (i := 44) (oi := ?oi44_42) (v := ?v44_42) ?hi44_42 (by kernel_rfl) ?hf44_42 (by kernel_rfl) ?hq44_42 ?hy44_42 hHeld ?rest44_42
  case hi44_42 => (simp only [List.getElem?_toArray, List.getElem?_cons_succ, List.getElem?_cons_zero]; try exact rfl)
  case hf44_42 => kernel_rfl
  case hq44_42 => exact fun _ _ _ h => h
  case hy44_42 => (refine yieldsIf_load_at ?_ 31 (.tmp 77) ?_ (⟨ma, 0 * 20, none⟩) ?_ (lnC q1) _ ?_ Tryz.underlying31 rfl (by kernel_rfl) <;> first | exact fun _ h => h.2.2 | rfl)
  try simp only [Act.put, List.setIfInBounds_toArray, List.set_cons_zero, List.set_cons_succ]
  refine wpAnyH_ready (rs := [45]) (by kernel_rfl) (by simp) ?_
  refine AllReadyH.cons (by simp only [List.getElem?_toArray, List.getElem?_cons_succ, List.getElem?_cons_zero]; try exact rfl) (fun K hK => ?_) AllReadyH.nil
  go_simp
  refine (Same_any (rr1 g) q1 0 0 X3 (HI3.out _ D3.out _ (by simp)) (((HLM.out X3 D3.out).each q1 (by simp)).toIn.more (Nat.zero_le _) (Nat.le_refl _))).mono ?_
  rintro e X4 ⟨rfl, hx4⟩
  rw [sameL_yes (show (rr1 g).ln = q1.ln from HQ1.out.symm)]
  have D4 := Lib.hid (show Below W3.heap.size W3 X4 from bt hx4 D3.out)
  clear hx4
  refine hK.out _ _ ⟨fun j v h => keepA D4.out (HK.out.1 j v h), fun j v h => keepA D4.out (HK.out.2.1 j v h), fun j v h => keepA D4.out (HK.out.2.2 j v h)⟩ (fun hHeld => ?_)
  clear hK K
  try simp only [Act.put, List.setIfInBounds_toArray, List.set_cons_zero, List.set_cons_succ]
  refine wpAnyH_take (i := 46) (oi := ?oi46_43) (v := ?v46_43) ?hi46_43 (by kernel_rfl) ?hf46_43 (by kernel_rfl) ?hq46_43 ?hy46_43 hHeld ?rest46_43
  case hi46_43 => (simp only [List.getElem?_toArray, List.getElem?_cons_succ, List.getElem?_cons_zero]; try exact rfl)
  case hf46_43 => kernel_rfl
  case hq46_43 => exact fun _ _ _ h => h
  case hy46_43 => (refine Or.inl ⟨rfl, ?_⟩; intro w hSw; (try dsimp only at hSw); go_simp; try with_reducible rfl)
  try simp only [Act.put, List.setIfInBounds_toArray, List.set_cons_zero, List.set_cons_succ]
  refine wpAnyH_take (i := 47) (oi := ?oi47_44) (v := ?v47_44) ?hi47_44 (by kernel_rfl) ?hf47_44 (by kernel_rfl) ?hq47_44 ?hy47_44 hHeld ?rest47_44
  case hi47_44 => (simp only [List.getElem?_toArray, List.getElem?_cons_succ, List.getElem?_cons_zero]; try exact rfl)
  case hf47_44 => kernel_rfl
  case hq47_44 => exact fun _ _ _ h => h
  case hy47_44 => (refine Or.inl ⟨rfl, ?_⟩; intro w hSw; (try dsimp only at hSw); go_simp; try with_reducible rfl)
  try simp only [Act.put, List.setIfInBounds_toArray, List.set_cons_zero, List.set_cons_succ]
  refine wpAnyH_take (i := 48) (oi := ?oi48_45) (v := ?v48_45) ?hi48_45 (by kernel_rfl) ?hf48_45 (by kernel_rfl) ?hq48_45 ?hy48_45 hHeld ?rest48_45
  case hi48_45 => (simp only [List.getElem?_toArray, List.getElem?_cons_succ, List.getElem?_cons_zero]; try exact rfl)
  case hf48_45 => kernel_rfl
  case hq48_45 => exact fun _ _ _ h => h
  case hy48_45 => (refine Or.inl ⟨rfl, ?_⟩; intro w hSw; (try dsimp only at hSw); go_simp; try with_reducible rfl)
  try simp only [Act.put, List.setIfInBounds_toArray, List.set_cons_zero, List.set_cons_succ]
  refine wpAnyH_take (i := 49) (oi := ?oi49_46) (v := ?v49_46) ?hi49_46 (by kernel_rfl) ?hf49_46 (by kernel_rfl) ?hq49_46 ?hy49_46 hHeld ?rest49_46
  case hi49_46 => (simp only [List.getElem?_toArray, List.getElem?_cons_succ, List.getElem?_cons_zero]; try exact rfl)
  case hf49_46 => kernel_rfl
  case hq49_46 => exact fun _ _ _ h => h
  case hy49_46 => (refine Or.inl ⟨rfl, ?_⟩; intro w hSw; (try dsimp only at hSw); go_simp; try with_reducible rfl)
  try simp only [Act.put, List.setIfInBounds_toArray, List.set_cons_zero, List.set_cons_succ]
  refine wpAnyH_take (i := 50) (oi := ?oi50_47) (v := ?v50_47) ?hi50_47 (by kernel_rfl) ?hf50_47 (by kernel_rfl) ?hq50_47 ?hy50_47 hHeld ?rest50_47
  case hi50_47 => (simp only [List.getElem?_toArray, List.getElem?_cons_succ, List.getElem?_cons_zero]; try exact rfl)
  case hf50_47 => kernel_rfl
  case hq50_47 => exact fun _ _ _ h => h
  case hy50_47 => (refine yieldsIf_load_at ?_ 31 (.tmp 83) ?_ (⟨g + 3, 0 * 20, none⟩) ?_ (lnC (rr1 g)) _ ?_ Tryz.underlying31 rfl (by kernel_rfl) <;> first | exact fun _ h => h.1 | rfl)
  try simp only [Act.put, List.setIfInBounds_toArray, List.set_cons_zero, List.set_cons_succ]
  refine wpAnyH_take (i := 51) (oi := ?oi51_48) (v := ?v51_48) ?hi51_48 (by kernel_rfl) ?hf51_48 (by kernel_rfl) ?hq51_48 ?hy51_48 hHeld ?rest51_48
  case hi51_48 => (simp only [List.getElem?_toArray, List.getElem?_cons_succ, List.getElem?_cons_zero]; try exact rfl)
  case hf51_48 => kernel_rfl
  case hq51_48 => exact fun _ _ _ h => h
  case hy51_48 => (refine Or.inl ⟨rfl, ?_⟩; intro w hSw; (try dsimp only at hSw); go_simp; try with_reducible rfl)
  try simp only [Act.put, List.setIfInBounds_toArray, List.set_cons_zero, List.set_cons_succ]
  refine wpAnyH_take (i := 52) (oi := ?oi52_49) (v := ?v52_49) ?hi52_49 (by kernel_rfl) ?hf52_49 (by kernel_rfl) ?hq52_49 ?hy52_49 hHeld ?rest52_49
  case hi52_49 => (simp only [List.getElem?_toArray, List.getElem?_cons_succ, List.getElem?_cons_zero]; try exact rfl)
  case hf52_49 => kernel_rfl
  case hq52_49 => exact fun _ _ _ h => h
  case hy52_49 => (refine Or.inl ⟨rfl, ?_⟩; intro w hSw; (try dsimp only at hSw); go_simp; try with_reducible rfl)
  try simp only [Act.put, List.setIfInBounds_toArray, List.set_cons_zero, List.set_cons_succ]
  refine wpAnyH_take (i := 53) (oi := ?oi53_50) (v := ?v53_50) ?hi53_50 (by kernel_rfl) ?hf53_50 (by kernel_rfl) ?hq53_50 ?hy53_50 hHeld ?rest53_50
  case hi53_50 => (simp only [List.getElem?_toArray, List.getElem?_cons_succ, List.getElem?_cons_zero]; try exact rfl)
  case hf53_50 => kernel_rfl
  case hq53_50 => exact fun _ _ _ h => h
  case hy53_50 => (refine yieldsIf_load_at ?_ 31 (.tmp 86) ?_ (⟨g + 3, 1 * 20, none⟩) ?_ (lnC (rr2 g)) _ ?_ Tryz.underlying31 rfl (by kernel_rfl) <;> first | exact fun _ h => h.2.1 | rfl)
  try simp only [Act.put, List.setIfInBounds_toArray, List.set_cons_zero, List.set_cons_succ]
  refine wpAnyH_ready (rs := [54]) (by kernel_rfl) (by simp) ?_
  refine AllReadyH.cons (by simp only [List.getElem?_toArray, List.getElem?_cons_succ, List.getElem?_cons_zero]; try exact rfl) (fun K hK => ?_) AllReadyH.nil
  go_simp
  refine (Same_any (rr1 g) (rr2 g) 0 0 X4 (HI3.out _ D4.out _ (by simp)) (HI3.out _ D4.out _ (by simp))).mono ?_
  rintro e X5 ⟨rfl, hx5⟩
  rw [sameL_no (show ¬ (rr1 g).ln = (rr2 g).ln from ne12)]
  have D5 := Lib.hid (show Below W3.heap.size W3 X5 from bt hx5 D4.out)
  clear hx5
  refine hK.out _ _ ⟨fun j v h => keepA D5.out (HK.out.1 j v h), fun j v h => keepA D5.out (HK.out.2.1 j v h), fun j v h => keepA D5.out (HK.out.2.2 j v h)⟩ (fun hHeld => ?_)
  clear hK K
  try simp only [Act.put, List.setIfInBounds_toArray, List.set_cons_zero, List.set_cons_succ]
  refine wpAnyH_take (i := 55) (oi := ?oi55_51) (v := ?v55_51) ?hi55_51 (by kernel_rfl) ?hf55_51 (by kernel_rfl) ?hq55_51 ?hy55_51 hHeld ?rest55_51
  case hi55_51 => (simp only [List.getElem?_toArray, List.getElem?_cons_succ, List.getElem?_cons_zero]; try exact rfl)
  case hf55_51 => kernel_rfl
  case hq55_51 => exact fun _ _ _ h => h
  case hy55_51 => (refine Or.inl ⟨rfl, ?_⟩; intro w hSw; (try dsimp only at hSw); go_simp; try with_reducible rfl)
  try simp only [Act.put, List.setIfInBounds_toArray, List.set_cons_zero, List.set_cons_succ]
  refine wpAnyH_take (i := 56) (oi := ?oi56_52) (v := ?v56_52) ?hi56_52 (by kernel_rfl) ?hf56_52 (by kernel_rfl) ?hq56_52 ?hy56_52 hHeld ?rest56_52
  case hi56_52 => (simp only [List.getElem?_toArray, List.getElem?_cons_succ, List.getElem?_cons_zero]; try exact rfl)
  case hf56_52 => kernel_rfl
  case hq56_52 => exact fun _ _ _ h => h
  case hy56_52 => (refine Or.inl ⟨rfl, ?_⟩; intro w hSw; (try dsimp only at hSw); go_simp; try with_reducible rfl)
  try simp only [Act.put, List.setIfInBounds_toArray, List.set_cons_zero, List.set_cons_succ]
  refine wpAnyH_take (i := 57) (oi := ?oi57_53) (v := ?v57_53) ?hi57_53 (by kernel_rfl) ?hf57_53 (by kernel_rfl) ?hq57_53 ?hy57_53 hHeld ?rest57_53
  case hi57_53 => (simp only [List.getElem?_toArray, List.getElem?_cons_succ, List.getElem?_cons_zero]; try exact rfl)
  case hf57_53 => kernel_rfl
  case hq57_53 => exact fun _ _ _ h => h
  case hy57_53 => (refine Or.inl ⟨rfl, ?_⟩; intro w hSw; (try dsimp only at hSw); go_simp; try with_reducible rfl)
  try simp only [Act.put, List.setIfInBounds_toArray, List.set_cons_zero, List.set_cons_succ]
  refine wpAnyH_done (by kernel_rfl) ?_ _
  go_wp2_with fail
  go_ret
  exact ⟨rfl, (bt D5.out (bt HB3.out HB.out))⟩
end Go.Proofs.YtchgfabgighbfaaGreatDoor.LvdW
