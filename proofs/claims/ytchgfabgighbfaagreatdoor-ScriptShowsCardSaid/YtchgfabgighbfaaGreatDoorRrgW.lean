/- The reference's Right (printed by mkrrg.py). -/
import Derived.Test.YtchgfabgighbfaaGreatDoorRriW
import Derived.Test.YtchgfabgighbfaaGreatDoorStpW
import Derived.Deep.MidRow
namespace Go.Proofs.YtchgfabgighbfaaGreatDoor.RrgW
set_option linter.unusedVariables false
set_option linter.unusedSimpArgs false
open Go.RowKit Base SeqM ScrM ScrA EqlW LinV RigW SchW RgtW RriW StpW

/-- two boxes: the line that is asked, and that of its kind alone -/
structure Tw (w : World) (r0 r1 : LnR) (W : World) : Prop where
  b0 : W.heap[w.heap.size]? = some (.cells (lnC r0).toArray 31 (0, 0))
  b1 : W.heap[w.heap.size + 1]? = some (.cells (lnC r1).toArray 31 (0, 0))
  low : Below w.heap.size w W
theorem Tw.size {w W : World} {r0 r1 : LnR} (h : Tw w r0 r1 W) : w.heap.size + 2 ≤ W.heap.size := (Array.getElem?_eq_some_iff.1 h.b1).1
theorem Tw.free {w W W' : World} {r0 r1 : LnR} (h : Tw w r0 r1 W) (hb : Below W.heap.size W W') : Tw w r0 r1 W' :=
  ⟨(hb.block _ (by have := h.size; omega)).trans h.b0, (hb.block _ (by have := h.size; omega)).trans h.b1, bt hb h.low⟩
theorem Tw.at_ {w W : World} {r0 r1 : LnR} (h : Tw w r0 r1 W) {o : Nat} {v : Value} (hv : (lnC r0)[o]? = some v) : W.cell? ⟨w.heap.size, o, none⟩ = some v := cell_of h.b0 (by simpa using hv)
theorem Tw.range {w W : World} {r0 r1 : LnR} (h : Tw w r0 r1 W) (o : Nat) (cs : List Value) (hc : ∀ j v, cs[j]? = some v → (lnC r0)[o + j]? = some v) : W.rangeAt w.heap.size o cs := fun j v hj => h.at_ (hc j v hj)
theorem list_all {l : List Value} (h : l.all (·.oneCell') = true) : ∀ u ∈ l, u.oneCell' = true := fun u hu => List.all_eq_true.1 h u hu
theorem listBox {ops : Array Oper} {rest : List Oper} {op : Oper} {a : Act} {w : World} {Q : Exit → Act → World → Prop} (hgd : op.guard = none) (x y : Operand) (ho : op.op = .store 31 x y) (r0 r1 : LnR)
    (hx : a.eval x = .pointer (some ⟨w.heap.size + 1, 0, none⟩)) (hy : a.eval y = .agg (lnC r1).toArray) (h1 : (lnC r1).all (·.oneCell') = true)
    (h : ∀ W, Tw w r0 r1 W → wpList Tryz.prog ops Q rest (a.put op.dst undef) W) : wpList Tryz.prog ops Q (op :: rest) a ((w.alloc (.cells (lnC r0).toArray 31)).alloc (.cells #[.int .i64 0, .int .i64 0, .int .i64 0, .int .i64 0, .int .i64 0, .int .i64 0, .int .i64 0, .int .i64 0, .int .i64 0, .int .i64 0, .int .i64 0, .int .i64 0, .int .i64 0, .int .i64 0, .slice none 0 0, .int .i64 0, .int .i64 0, .slice none 0 0, .int .i64 0, .slice none 0 0] 31)) := by
  refine wpList_store_row hgd 31 x y ho (w.heap.size + 1) (lnC r1).toArray hx hy 31 _ (alloc2_new w _ _) (by kernel_rfl) rfl (all_one _ h1) (h _ ⟨?_, row_heap (alloc2_new w _ _), below_row (below_a2 w _ _) (by omega)⟩)
  exact (row_other (by omega)).trans (heap_alloc2_old w _ _)
theorem listSet {ops : Array Oper} {rest : List Oper} {op : Oper} {a : Act} {w W : World} {Q : Exit → Act → World → Prop} (hgd : op.guard = none) (ty : TypeId) (x y : Operand) (ho : op.op = .store ty x y) {r0 r1 : LnR} (hT : Tw w r0 r1 W) (r2 : LnR) (off : Nat) (v : Value)
    (hx : a.eval x = .pointer (some ⟨w.heap.size + 1, off, none⟩)) (hy : a.eval y = v) (hi : (Tryz.prog.info? ty).map (·.size) = some v.cells.size) (hfit : off + v.cells.size ≤ 20) (h1 : v.cells.toList.all (·.oneCell') = true)
    (hnew : (lnC r1).take off ++ v.cells.toList ++ (lnC r1).drop (off + v.cells.toList.length) = lnC r2)
    (h : ∀ W', Tw w r0 r2 W' → wpList Tryz.prog ops Q rest (a.put op.dst undef) W') : wpList Tryz.prog ops Q (op :: rest) a W :=
  listStore hgd ty x y ho (w.heap.size + 1) off v hx hy 31 (lnC r1).toArray (lnC r2).toArray hT.b1 hi (by have e : (lnC r1).toArray.size = 20 := (by rw [List.size_toArray, lnC_len]); rw [e]; exact hfit) (list_all h1) hnew (h _ ⟨(row_other (by omega)).trans hT.b0, row_heap hT.b1, below_row hT.low (by omega)⟩)
def KwRel (w : World) (r0 r1 : LnR) (kp : List (Int × Int)) (i : Value) (wr : World) : Prop := ∃ k : Nat, k ≤ kp.length ∧ i = .int .i64 k ∧ keptOk (kp.take k) ∧ Tw w r0 r1 wr
set_option maxHeartbeats 8000000 in
set_option maxRecDepth 100000 in
theorem RRight_0 (k1 : Int) (c0 c1 c2 c3 c4 c5 c6 c7 c8 c9 c10 a1 a2 : Int) (a3 : List Int) (a4 a5 : Int) (dr : List Nat) (n1 : Int) (kp : List (Int × Int)) (xv dv kv : Value) (lo : Nat) (w : World) (hk : k1 ≠ 1 ∧ k1 ≠ 2 ∧ k1 ≠ 3 ∧ k1 ≠ 4 ∧ k1 ≠ 5) (h : LnIn w lo w.heap.size ⟨xv, dv, kv, ⟨k1, ⟨c0, c1, c2, c3, c4, c5, c6, c7, c8, c9, c10⟩, ⟨a1, a2, a3, a4, a5⟩, dr, n1, kp⟩⟩) (hd64 : ∀ x ∈ dr, x < 18446744073709551616) :
    Calls Tryz.prog 10 #[.agg #[.int .i64 k1, .int .i64 c0, .int .i64 c1, .int .i64 c2, .int .i64 c3, .int .i64 c4, .int .i64 c5, .int .i64 c6, .int .i64 c7, .int .i64 c8, .int .i64 c9, .int .i64 c10, .int .i64 a1, .int .i64 a2, xv, .int .i64 a4, .int .i64 a5, dv, .int .i64 n1, kv]] w fun e w' => e = .returned (.bool (rightB ⟨k1, ⟨c0, c1, c2, c3, c4, c5, c6, c7, c8, c9, c10⟩, ⟨a1, a2, a3, a4, a5⟩, dr, n1, kp⟩)) ∧ Below w.heap.size w w' := by
  have HIN := Lib.hid (fun (W : World) (hb : Below w.heap.size w W) => h.up hb)
  obtain ⟨h1, h2, h3, h4, h5⟩ := hk
  have q1 : (k1 == 1) = false := beq_eq_false_iff_ne.2 h1
  have q2 : (k1 == 2) = false := beq_eq_false_iff_ne.2 h2
  have q3 : (k1 == 3) = false := beq_eq_false_iff_ne.2 h3
  have q4 : (k1 == 4) = false := beq_eq_false_iff_ne.2 h4
  have q5 : (k1 == 5) = false := beq_eq_false_iff_ne.2 h5
  have F := Lib.hid (right_no (l := (⟨k1, ⟨c0, c1, c2, c3, c4, c5, c6, c7, c8, c9, c10⟩, ⟨a1, a2, a3, a4, a5⟩, dr, n1, kp⟩ : Ln)) (fun h => by have := right_kind h; dsimp only at this; omega))
  clear h h1 h2 h3 h4 h5 hd64
  go_enter Tryz.func10, Tryz.ntmps10
  go_wp2_with (refine (id ?_ : wpList _ _ _ (⟨none, .store 31 _ _, _, _, _, _⟩ :: _) _ _); refine listBox rfl (.tmp 3) (.tmp 8) rfl (⟨xv, dv, kv, ⟨k1, ⟨c0, c1, c2, c3, c4, c5, c6, c7, c8, c9, c10⟩, ⟨a1, a2, a3, a4, a5⟩, dr, n1, kp⟩⟩ : LnR) (⟨.slice none 0 0, .slice none 0 0, .slice none 0 0, ln0 k1⟩ : LnR) (by rfl) (by rfl) (by rfl) ?_; intro W hT; have HT := Lib.hid hT; have e0 := hT.at_ (o := 0) rfl; have lz := hT.size; clear hT)
  go_ret
  exact ⟨by rw [F.out]; rfl, HT.out.low⟩
set_option maxHeartbeats 8000000 in
set_option maxRecDepth 100000 in
theorem RRight_1 (c0 c1 c2 c3 c4 c5 c6 c7 c8 c9 c10 a1 a2 : Int) (a3 : List Int) (a4 a5 : Int) (dr : List Nat) (n1 : Int) (kp : List (Int × Int)) (xv dv kv : Value) (lo : Nat) (w : World) (h : LnIn w lo w.heap.size ⟨xv, dv, kv, ⟨1, ⟨c0, c1, c2, c3, c4, c5, c6, c7, c8, c9, c10⟩, ⟨a1, a2, a3, a4, a5⟩, dr, n1, kp⟩⟩) (hd64 : ∀ x ∈ dr, x < 18446744073709551616) :
    Calls Tryz.prog 10 #[.agg #[.int .i64 1, .int .i64 c0, .int .i64 c1, .int .i64 c2, .int .i64 c3, .int .i64 c4, .int .i64 c5, .int .i64 c6, .int .i64 c7, .int .i64 c8, .int .i64 c9, .int .i64 c10, .int .i64 a1, .int .i64 a2, xv, .int .i64 a4, .int .i64 a5, dv, .int .i64 n1, kv]] w fun e w' => e = .returned (.bool (rightB ⟨1, ⟨c0, c1, c2, c3, c4, c5, c6, c7, c8, c9, c10⟩, ⟨a1, a2, a3, a4, a5⟩, dr, n1, kp⟩)) ∧ Below w.heap.size w w' := by
  have HIN := Lib.hid (fun (W : World) (hb : Below w.heap.size w W) => h.up hb)
  have HIFF := Lib.hid (right_conf (l := (⟨1, ⟨c0, c1, c2, c3, c4, c5, c6, c7, c8, c9, c10⟩, ⟨a1, a2, a3, a4, a5⟩, dr, n1, kp⟩ : Ln)) rfl)
  (try dsimp only at HIFF)
  clear h hd64
  have HSM := Lib.hid (fun (W : World) (hb : Below w.heap.size w W) => RSame_any (⟨.slice none 0 0, .slice none 0 0, .slice none 0 0, onlyCf ⟨c0, c1, c2, c3, c4, c5, c6, c7, c8, c9, c10⟩⟩ : LnR) (⟨xv, dv, kv, ⟨1, ⟨c0, c1, c2, c3, c4, c5, c6, c7, c8, c9, c10⟩, ⟨a1, a2, a3, a4, a5⟩, dr, n1, kp⟩⟩ : LnR) 0 lo W (nil_in _ _ ⟨rfl, rfl, rfl⟩) (HIN.out W hb))
  go_enter Tryz.func10, Tryz.ntmps10
  go_wp2_with (first | (refine (id ?_ : wpList _ _ _ (⟨none, .store 31 _ _, _, _, _, _⟩ :: _) _ _); refine listBox rfl (.tmp 3) (.tmp 8) rfl (⟨xv, dv, kv, ⟨1, ⟨c0, c1, c2, c3, c4, c5, c6, c7, c8, c9, c10⟩, ⟨a1, a2, a3, a4, a5⟩, dr, n1, kp⟩⟩ : LnR) (⟨.slice none 0 0, .slice none 0 0, .slice none 0 0, ln0 1⟩ : LnR) (by rfl) (by rfl) (by rfl) ?_; intro W hT; have HT := Lib.hid hT; have e0 := hT.at_ (o := 0) rfl; have lz := hT.size; clear hT) | (refine (id ?_ : wpList _ _ _ (⟨some 14, .load _ _, _, _, _, _⟩ :: _) _ _); refine wpList_load_mid rfl 24 (.tmp 13) rfl w.heap.size 1 (by rfl) [.int .i64 c0, .int .i64 c1, .int .i64 c2, .int .i64 c3, .int .i64 c4, .int .i64 c5, .int .i64 c6, .int .i64 c7, .int .i64 c8, .int .i64 c9, .int .i64 c10] _ (HT.out.range 1 _ (fun j v hj => by rcases j with _ | _ | _ | _ | _ | _ | _ | _ | _ | _ | _ | j <;> first | exact hj | (simp at hj))) Tryz.underlying24 rfl (by kernel_rfl) ?_) | (refine (id ?_ : wpList _ _ _ (⟨none, .store 24 _ _, _, _, _, _⟩ :: _) _ _); refine listSet rfl 24 (.tmp 15) (.tmp 14) rfl HT.out (⟨.slice none 0 0, .slice none 0 0, .slice none 0 0, onlyCf ⟨c0, c1, c2, c3, c4, c5, c6, c7, c8, c9, c10⟩⟩ : LnR) 1 (.agg #[.int .i64 c0, .int .i64 c1, .int .i64 c2, .int .i64 c3, .int .i64 c4, .int .i64 c5, .int .i64 c6, .int .i64 c7, .int .i64 c8, .int .i64 c9, .int .i64 c10]) (by rfl) (by rfl) (by kernel_rfl) (Nat.le_of_ble_eq_true rfl) (by rfl) (by rfl) ?_; intro W2 hT; have HT2 := Lib.hid hT; have lz2 := hT.size; clear hT) | (refine (id ?_ : wpList _ _ _ (⟨some 16, .load _ _, _, _, _, _⟩ :: _) _ _); refine wpList_load_row rfl 31 (.tmp 3) rfl (w.heap.size + 1) (by rfl) _ _ _ _ HT2.out.b1 Tryz.underlying31 rfl (by kernel_rfl) ?_) | (refine (id ?_ : wpList _ _ _ (⟨some 17, .load _ _, _, _, _, _⟩ :: _) _ _); refine wpList_load_row rfl 31 (.tmp 1) rfl w.heap.size (by rfl) _ _ _ _ HT2.out.b0 Tryz.underlying31 rfl (by kernel_rfl) ?_))
  refine (HSM.out _ HT2.out.low).mono ?_
  rintro e w1 ⟨rfl, hb⟩
  have HB := Lib.hid (HT2.out.free hb)
  clear hb
  by_cases hs : (⟨1, ⟨c0, c1, c2, c3, c4, c5, c6, c7, c8, c9, c10⟩, ⟨a1, a2, a3, a4, a5⟩, dr, n1, kp⟩ : Ln) = onlyCf ⟨c0, c1, c2, c3, c4, c5, c6, c7, c8, c9, c10⟩
  · have hs2 := hs.symm
    rw [sameL_yes hs2]
    have HS := Lib.hid hs
    clear hs2
    clear hs
    have f1 := HB.out.at_ (o := 1) rfl
    have f2 := HB.out.at_ (o := 2) rfl
    have f3 := HB.out.at_ (o := 3) rfl
    have f4 := HB.out.at_ (o := 4) rfl
    have f5 := HB.out.at_ (o := 5) rfl
    have f6 := HB.out.at_ (o := 6) rfl
    have f7 := HB.out.at_ (o := 7) rfl
    have f8 := HB.out.at_ (o := 8) rfl
    have f9 := HB.out.at_ (o := 9) rfl
    have f10 := HB.out.at_ (o := 10) rfl
    have f11 := HB.out.at_ (o := 11) rfl
    have fz := HB.out.size
    go_wp2_with fail
    refine (RConf_any c0 c1 c2 c3 c4 c5 c6 c7 c8 c9 c10 _).mono ?_
    rintro e w2 ⟨rfl, hb2⟩
    have HB2 := Lib.hid (HB.out.free hb2)
    clear hb2
    by_cases hc : confOk ⟨c0, c1, c2, c3, c4, c5, c6, c7, c8, c9, c10⟩
    · rw [conf_yes hc]
      have F := Lib.hid (right_yes (HIFF.out.2 ⟨HS.out, hc⟩))
      clear hc
      go_wp2_with fail
      go_ret
      exact ⟨by rw [F.out]; rfl, HB2.out.low⟩
    · rw [conf_no hc]
      have F := Lib.hid (right_no (fun h => hc (HIFF.out.1 h).2))
      clear hc
      go_wp2_with fail
      go_ret
      exact ⟨by rw [F.out]; rfl, HB2.out.low⟩
  · rw [sameL_no (fun e => hs e.symm)]
    have F := Lib.hid (right_no (fun h => hs (HIFF.out.1 h).1))
    clear hs
    go_wp2_with fail
    go_ret
    exact ⟨by rw [F.out]; rfl, HB.out.low⟩
set_option maxHeartbeats 8000000 in
set_option maxRecDepth 100000 in
theorem RRight_2 (c0 c1 c2 c3 c4 c5 c6 c7 c8 c9 c10 a1 a2 : Int) (a3 : List Int) (a4 a5 : Int) (dr : List Nat) (n1 : Int) (kp : List (Int × Int)) (xv dv kv : Value) (lo : Nat) (w : World) (h : LnIn w lo w.heap.size ⟨xv, dv, kv, ⟨2, ⟨c0, c1, c2, c3, c4, c5, c6, c7, c8, c9, c10⟩, ⟨a1, a2, a3, a4, a5⟩, dr, n1, kp⟩⟩) (hd64 : ∀ x ∈ dr, x < 18446744073709551616) :
    Calls Tryz.prog 10 #[.agg #[.int .i64 2, .int .i64 c0, .int .i64 c1, .int .i64 c2, .int .i64 c3, .int .i64 c4, .int .i64 c5, .int .i64 c6, .int .i64 c7, .int .i64 c8, .int .i64 c9, .int .i64 c10, .int .i64 a1, .int .i64 a2, xv, .int .i64 a4, .int .i64 a5, dv, .int .i64 n1, kv]] w fun e w' => e = .returned (.bool (rightB ⟨2, ⟨c0, c1, c2, c3, c4, c5, c6, c7, c8, c9, c10⟩, ⟨a1, a2, a3, a4, a5⟩, dr, n1, kp⟩)) ∧ Below w.heap.size w w' := by
  have HIN := Lib.hid (fun (W : World) (hb : Below w.heap.size w W) => h.up hb)
  have HIFF := Lib.hid (right_ask (l := (⟨2, ⟨c0, c1, c2, c3, c4, c5, c6, c7, c8, c9, c10⟩, ⟨a1, a2, a3, a4, a5⟩, dr, n1, kp⟩ : Ln)) rfl hd64)
  (try dsimp only at HIFF)
  obtain ⟨XA, xc, rfl, _, _, _⟩ := (show Seq 1 inC w lo w.heap.size xv a3 from h.xs)
  obtain ⟨xn, hxn⟩ : ∃ xn, a3.length = xn := ⟨_, rfl⟩
  rw [hxn] at HIN ⊢
  clear hxn
  obtain ⟨DA, dc, rfl, hd1, hd2, _⟩ := (show Seq 1 u6C w lo w.heap.size dv dr from h.ds)
  obtain ⟨dn, hdn⟩ : ∃ dn, dr.length = dn := ⟨_, rfl⟩
  have HDN := Lib.hid hdn
  rw [hdn] at hd1 HIN ⊢
  unfold maxLen at hd2
  clear h hd64 hdn
  have HSM := Lib.hid (fun (W : World) (hb : Below w.heap.size w W) => RSame_any (⟨(.slice XA xn xc), .slice DA dn dc, .slice none 0 0, onlyAk ⟨a1, a2, a3, a4, a5⟩ dr⟩ : LnR) (⟨(.slice XA xn xc), .slice DA dn dc, kv, ⟨2, ⟨c0, c1, c2, c3, c4, c5, c6, c7, c8, c9, c10⟩, ⟨a1, a2, a3, a4, a5⟩, dr, n1, kp⟩⟩ : LnR) 0 lo W (⟨((HIN.out W hb).xs).more (Nat.zero_le _) (Nat.le_refl _), ((HIN.out W hb).ds).more (Nat.zero_le _) (Nat.le_refl _), Seq.nil_⟩) (HIN.out W hb))
  go_enter Tryz.func10, Tryz.ntmps10
  go_wp2_with (first | (refine (id ?_ : wpList _ _ _ (⟨none, .store 31 _ _, _, _, _, _⟩ :: _) _ _); refine listBox rfl (.tmp 3) (.tmp 8) rfl (⟨(.slice XA xn xc), .slice DA dn dc, kv, ⟨2, ⟨c0, c1, c2, c3, c4, c5, c6, c7, c8, c9, c10⟩, ⟨a1, a2, a3, a4, a5⟩, dr, n1, kp⟩⟩ : LnR) (⟨.slice none 0 0, .slice none 0 0, .slice none 0 0, ln0 2⟩ : LnR) (by rfl) (by rfl) (by rfl) ?_; intro W hT; have HT := Lib.hid hT; have e0 := hT.at_ (o := 0) rfl; have lz := hT.size; have e17 := hT.at_ (o := 17) rfl; clear hT) | (refine (id ?_ : wpList _ _ _ (⟨some 27, .load _ _, _, _, _, _⟩ :: _) _ _); refine wpList_load_mid rfl 27 (.tmp 26) rfl w.heap.size 12 (by rfl) [.int .i64 a1, .int .i64 a2, (.slice XA xn xc), .int .i64 a4, .int .i64 a5] _ (HT.out.range 12 _ (fun j v hj => by rcases j with _ | _ | _ | _ | _ | _ | _ | _ | _ | _ | _ | j <;> first | exact hj | (simp at hj))) Tryz.underlying27 rfl (by kernel_rfl) ?_) | (refine (id ?_ : wpList _ _ _ (⟨none, .store 27 _ _, _, _, _, _⟩ :: _) _ _); refine listSet rfl 27 (.tmp 28) (.tmp 27) rfl HT.out (⟨(.slice XA xn xc), .slice none 0 0, .slice none 0 0, { ln0 2 with ak := ⟨a1, a2, a3, a4, a5⟩ }⟩ : LnR) 12 (.agg #[.int .i64 a1, .int .i64 a2, (.slice XA xn xc), .int .i64 a4, .int .i64 a5]) (by rfl) (by rfl) (by kernel_rfl) (Nat.le_of_ble_eq_true rfl) (by rfl) (by rfl) ?_; intro W2 hT; have HT2 := Lib.hid hT; have e2_17 := hT.at_ (o := 17) rfl; have lz2 := hT.size; clear hT) | (refine (id ?_ : wpList _ _ _ (⟨none, .store 28 _ _, _, _, _, _⟩ :: _) _ _); refine listSet rfl 28 (.tmp 31) (.tmp 30) rfl HT2.out (⟨(.slice XA xn xc), .slice DA dn dc, .slice none 0 0, onlyAk ⟨a1, a2, a3, a4, a5⟩ dr⟩ : LnR) 17 (.slice DA dn dc) (by rfl) (by rfl) (by kernel_rfl) (Nat.le_of_ble_eq_true rfl) (by rfl) (by rfl) ?_; intro W3 hT; have HT3 := Lib.hid hT; have lz3 := hT.size; clear hT) | (refine (id ?_ : wpList _ _ _ (⟨some 32, .load _ _, _, _, _, _⟩ :: _) _ _); refine wpList_load_row rfl 31 (.tmp 3) rfl (w.heap.size + 1) (by rfl) _ _ _ _ HT3.out.b1 Tryz.underlying31 rfl (by kernel_rfl) ?_) | (refine (id ?_ : wpList _ _ _ (⟨some 33, .load _ _, _, _, _, _⟩ :: _) _ _); refine wpList_load_row rfl 31 (.tmp 1) rfl w.heap.size (by rfl) _ _ _ _ HT3.out.b0 Tryz.underlying31 rfl (by kernel_rfl) ?_))
  refine (HSM.out _ HT3.out.low).mono ?_
  rintro e w1 ⟨rfl, hb⟩
  have HB := Lib.hid (HT3.out.free hb)
  clear hb
  by_cases hs : (⟨2, ⟨c0, c1, c2, c3, c4, c5, c6, c7, c8, c9, c10⟩, ⟨a1, a2, a3, a4, a5⟩, dr, n1, kp⟩ : Ln) = onlyAk ⟨a1, a2, a3, a4, a5⟩ dr
  · have hs2 := hs.symm
    rw [sameL_yes hs2]
    have HS := Lib.hid hs
    clear hs2
    clear hs
    have f12 := HB.out.at_ (o := 12) rfl
    have f13 := HB.out.at_ (o := 13) rfl
    have f14 := HB.out.at_ (o := 14) rfl
    have f15 := HB.out.at_ (o := 15) rfl
    have f16 := HB.out.at_ (o := 16) rfl
    have f17 := HB.out.at_ (o := 17) rfl
    have fz := HB.out.size
    go_wp2_with fail
    refine (RRightAsk_any (.slice XA xn xc) a1 a2 a3 a4 a5 _ ((HIN.out _ HB.out.low).xs.more (Nat.zero_le _) (Nat.le_refl _))).mono ?_
    rintro e w2 ⟨rfl, hb2⟩
    have HB2 := Lib.hid (HB.out.free hb2)
    clear hb2 f12 f13 f14 f15 f16 f17 fz
    by_cases hc : askOk ⟨a1, a2, a3, a4, a5⟩
    · rw [askB_yes hc]
      have HCC := Lib.hid hc
      clear hc
      have g12 := HB2.out.at_ (o := 12) rfl
      have g17 := HB2.out.at_ (o := 17) rfl
      have gz := HB2.out.size
      by_cases g1 : dn ≤ 2048
      · have d1 : decide ((dn : Int) ≤ 2048) = true := decide_eq_true (by omega)
        by_cases g3 : a1 = 1
        · have d3 : (a1 == 1) = true := beq_iff_eq.2 g3
          have F := Lib.hid (right_yes (HIFF.out.2 ⟨HS.out, HCC.out, by rw [HDN.out]; exact g1, .inl g3⟩))
          clear g1 g3
          go_wp2_with fail
          go_ret
          exact ⟨by rw [F.out]; rfl, HB2.out.low⟩
        · have d3 : (a1 == 1) = false := beq_eq_false_iff_ne.2 g3
          by_cases g2 : dn = 0
          · have d2 : ((dn : Int) == 0) = true := beq_iff_eq.2 (by omega)
            have F := Lib.hid (right_yes (HIFF.out.2 ⟨HS.out, HCC.out, by rw [HDN.out]; exact g1, .inr (List.eq_nil_of_length_eq_zero (by rw [HDN.out]; exact g2))⟩))
            clear g1 g2 g3
            go_wp2_with fail
            go_ret
            exact ⟨by rw [F.out]; rfl, HB2.out.low⟩
          · have d2 : ((dn : Int) == 0) = false := beq_eq_false_iff_ne.2 (by omega)
            have F := Lib.hid (right_no (fun h => by have := (HIFF.out.1 h).2.2.2; rcases this with e | e; exact g3 e; rw [e] at HDN; exact g2 HDN.out.symm))
            clear g1 g2 g3
            go_wp2_with fail
            go_ret
            exact ⟨by rw [F.out]; rfl, HB2.out.low⟩
      · have d1 : decide ((dn : Int) ≤ 2048) = false := decide_eq_false (by omega)
        have F := Lib.hid (right_no (fun h => g1 (by have := (HIFF.out.1 h).2.2.1; rw [HDN.out] at this; exact this)))
        clear g1
        go_wp2_with fail
        go_ret
        exact ⟨by rw [F.out]; rfl, HB2.out.low⟩
    · rw [askB_no hc]
      have F := Lib.hid (right_no (fun h => hc (HIFF.out.1 h).2.1))
      clear hc
      go_wp2_with fail
      go_ret
      exact ⟨by rw [F.out]; rfl, HB2.out.low⟩
  · rw [sameL_no (fun e => hs e.symm)]
    have F := Lib.hid (right_no (fun h => hs (HIFF.out.1 h).1))
    clear hs
    go_wp2_with fail
    go_ret
    exact ⟨by rw [F.out]; rfl, HB.out.low⟩
set_option maxHeartbeats 8000000 in
set_option maxRecDepth 100000 in
theorem RRight_3 (c0 c1 c2 c3 c4 c5 c6 c7 c8 c9 c10 a1 a2 : Int) (a3 : List Int) (a4 a5 : Int) (dr : List Nat) (n1 : Int) (kp : List (Int × Int)) (xv dv kv : Value) (lo : Nat) (w : World) (h : LnIn w lo w.heap.size ⟨xv, dv, kv, ⟨3, ⟨c0, c1, c2, c3, c4, c5, c6, c7, c8, c9, c10⟩, ⟨a1, a2, a3, a4, a5⟩, dr, n1, kp⟩⟩) (hd64 : ∀ x ∈ dr, x < 18446744073709551616) :
    Calls Tryz.prog 10 #[.agg #[.int .i64 3, .int .i64 c0, .int .i64 c1, .int .i64 c2, .int .i64 c3, .int .i64 c4, .int .i64 c5, .int .i64 c6, .int .i64 c7, .int .i64 c8, .int .i64 c9, .int .i64 c10, .int .i64 a1, .int .i64 a2, xv, .int .i64 a4, .int .i64 a5, dv, .int .i64 n1, kv]] w fun e w' => e = .returned (.bool (rightB ⟨3, ⟨c0, c1, c2, c3, c4, c5, c6, c7, c8, c9, c10⟩, ⟨a1, a2, a3, a4, a5⟩, dr, n1, kp⟩)) ∧ Below w.heap.size w w' := by
  have HIN := Lib.hid (fun (W : World) (hb : Below w.heap.size w W) => h.up hb)
  have HIFF := Lib.hid (right_stop (l := (⟨3, ⟨c0, c1, c2, c3, c4, c5, c6, c7, c8, c9, c10⟩, ⟨a1, a2, a3, a4, a5⟩, dr, n1, kp⟩ : Ln)) rfl)
  (try dsimp only at HIFF)
  clear h hd64
  have HSM := Lib.hid (fun (W : World) (hb : Below w.heap.size w W) => RSame_any (⟨.slice none 0 0, .slice none 0 0, .slice none 0 0, onlyN n1⟩ : LnR) (⟨xv, dv, kv, ⟨3, ⟨c0, c1, c2, c3, c4, c5, c6, c7, c8, c9, c10⟩, ⟨a1, a2, a3, a4, a5⟩, dr, n1, kp⟩⟩ : LnR) 0 lo W (nil_in _ _ ⟨rfl, rfl, rfl⟩) (HIN.out W hb))
  go_enter Tryz.func10, Tryz.ntmps10
  go_wp2_with (first | (refine (id ?_ : wpList _ _ _ (⟨none, .store 31 _ _, _, _, _, _⟩ :: _) _ _); refine listBox rfl (.tmp 3) (.tmp 8) rfl (⟨xv, dv, kv, ⟨3, ⟨c0, c1, c2, c3, c4, c5, c6, c7, c8, c9, c10⟩, ⟨a1, a2, a3, a4, a5⟩, dr, n1, kp⟩⟩ : LnR) (⟨.slice none 0 0, .slice none 0 0, .slice none 0 0, ln0 3⟩ : LnR) (by rfl) (by rfl) (by rfl) ?_; intro W hT; have HT := Lib.hid hT; have e0 := hT.at_ (o := 0) rfl; have lz := hT.size; have e18 := hT.at_ (o := 18) rfl; clear hT) | (refine (id ?_ : wpList _ _ _ (⟨none, .store 3 _ _, _, _, _, _⟩ :: _) _ _); refine listSet rfl 3 (.tmp 62) (.tmp 61) rfl HT.out (⟨.slice none 0 0, .slice none 0 0, .slice none 0 0, onlyN n1⟩ : LnR) 18 (.int .i64 n1) (by rfl) (by rfl) (by kernel_rfl) (Nat.le_of_ble_eq_true rfl) (by rfl) (by rfl) ?_; intro W2 hT; have HT2 := Lib.hid hT; have lz2 := hT.size; clear hT) | (refine (id ?_ : wpList _ _ _ (⟨some 63, .load _ _, _, _, _, _⟩ :: _) _ _); refine wpList_load_row rfl 31 (.tmp 3) rfl (w.heap.size + 1) (by rfl) _ _ _ _ HT2.out.b1 Tryz.underlying31 rfl (by kernel_rfl) ?_) | (refine (id ?_ : wpList _ _ _ (⟨some 64, .load _ _, _, _, _, _⟩ :: _) _ _); refine wpList_load_row rfl 31 (.tmp 1) rfl w.heap.size (by rfl) _ _ _ _ HT2.out.b0 Tryz.underlying31 rfl (by kernel_rfl) ?_))
  refine (HSM.out _ HT2.out.low).mono ?_
  rintro e w1 ⟨rfl, hb⟩
  have HB := Lib.hid (HT2.out.free hb)
  clear hb
  by_cases hs : (⟨3, ⟨c0, c1, c2, c3, c4, c5, c6, c7, c8, c9, c10⟩, ⟨a1, a2, a3, a4, a5⟩, dr, n1, kp⟩ : Ln) = onlyN n1
  · have hs2 := hs.symm
    rw [sameL_yes hs2]
    have HS := Lib.hid hs
    clear hs2
    clear hs
    have f18 := HB.out.at_ (o := 18) rfl
    have fz := HB.out.size
    by_cases g1 : -1 ≤ n1
    · have d1 : decide (n1 ≥ -1) = true := decide_eq_true g1
      by_cases g2 : n1 ≤ 1099511627776
      · have F := Lib.hid (right_yes (HIFF.out.2 ⟨HS.out, g1, g2⟩))
        have d2 : decide (n1 ≤ 1099511627776) = true := decide_eq_true g2
        clear g1 g2
        go_wp2_with fail
        go_ret
        exact ⟨by rw [F.out]; rfl, HB.out.low⟩
      · have F := Lib.hid (right_no (fun h => g2 (HIFF.out.1 h).2.2))
        have d2 : decide (n1 ≤ 1099511627776) = false := decide_eq_false g2
        clear g1 g2
        go_wp2_with fail
        go_ret
        exact ⟨by rw [F.out]; rfl, HB.out.low⟩
    · have F := Lib.hid (right_no (fun h => g1 (HIFF.out.1 h).2.1))
      have d1 : decide (n1 ≥ -1) = false := decide_eq_false g1
      clear g1
      go_wp2_with fail
      go_ret
      exact ⟨by rw [F.out]; rfl, HB.out.low⟩
  · rw [sameL_no (fun e => hs e.symm)]
    have F := Lib.hid (right_no (fun h => hs (HIFF.out.1 h).1))
    clear hs
    go_wp2_with fail
    go_ret
    exact ⟨by rw [F.out]; rfl, HB.out.low⟩
set_option maxHeartbeats 8000000 in
set_option maxRecDepth 100000 in
theorem RRight_4 (c0 c1 c2 c3 c4 c5 c6 c7 c8 c9 c10 a1 a2 : Int) (a3 : List Int) (a4 a5 : Int) (dr : List Nat) (n1 : Int) (kp : List (Int × Int)) (xv dv kv : Value) (lo : Nat) (w : World) (h : LnIn w lo w.heap.size ⟨xv, dv, kv, ⟨4, ⟨c0, c1, c2, c3, c4, c5, c6, c7, c8, c9, c10⟩, ⟨a1, a2, a3, a4, a5⟩, dr, n1, kp⟩⟩) (hd64 : ∀ x ∈ dr, x < 18446744073709551616) :
    Calls Tryz.prog 10 #[.agg #[.int .i64 4, .int .i64 c0, .int .i64 c1, .int .i64 c2, .int .i64 c3, .int .i64 c4, .int .i64 c5, .int .i64 c6, .int .i64 c7, .int .i64 c8, .int .i64 c9, .int .i64 c10, .int .i64 a1, .int .i64 a2, xv, .int .i64 a4, .int .i64 a5, dv, .int .i64 n1, kv]] w fun e w' => e = .returned (.bool (rightB ⟨4, ⟨c0, c1, c2, c3, c4, c5, c6, c7, c8, c9, c10⟩, ⟨a1, a2, a3, a4, a5⟩, dr, n1, kp⟩)) ∧ Below w.heap.size w w' := by
  have HIN := Lib.hid (fun (W : World) (hb : Below w.heap.size w W) => h.up hb)
  have HIFF := Lib.hid (right_crash (l := (⟨4, ⟨c0, c1, c2, c3, c4, c5, c6, c7, c8, c9, c10⟩, ⟨a1, a2, a3, a4, a5⟩, dr, n1, kp⟩ : Ln)) rfl)
  (try dsimp only at HIFF)
  obtain ⟨KA, kc, rfl, hk1, hk2, _⟩ := (show Seq 2 kpC w lo w.heap.size kv kp from h.ks)
  obtain ⟨kn, hkn⟩ : ∃ kn, kp.length = kn := ⟨_, rfl⟩
  have HKV := Lib.hid (fun (W : World) (hb : Below w.heap.size w W) (k : Nat) (hlt : k < kn) => by
    obtain ⟨A', cap', e', _, _, hr, _⟩ := (show Seq 2 kpC w lo w.heap.size _ kp from h.ks).below hb
    cases e'
    exact rdP hr (i := k) (by rw [hkn]; exact hlt))
  rw [hkn] at HIN hk1 ⊢
  unfold maxLen at hk2
  have HKN := Lib.hid hkn
  clear h hd64 hkn
  have HSM := Lib.hid (fun (W : World) (hb : Below w.heap.size w W) => RSame_any (⟨.slice none 0 0, .slice none 0 0, .slice KA kn kc, onlyKept kp⟩ : LnR) (⟨xv, dv, .slice KA kn kc, ⟨4, ⟨c0, c1, c2, c3, c4, c5, c6, c7, c8, c9, c10⟩, ⟨a1, a2, a3, a4, a5⟩, dr, n1, kp⟩⟩ : LnR) 0 lo W (⟨Seq.nil_, Seq.nil_, ((HIN.out W hb).ks).more (Nat.zero_le _) (Nat.le_refl _)⟩) (HIN.out W hb))
  go_enter Tryz.func10, Tryz.ntmps10
  go_upto_region 16 with (first | (refine (id ?_ : wpList _ _ _ (⟨none, .store 31 _ _, _, _, _, _⟩ :: _) _ _); refine listBox rfl (.tmp 3) (.tmp 8) rfl (⟨xv, dv, .slice KA kn kc, ⟨4, ⟨c0, c1, c2, c3, c4, c5, c6, c7, c8, c9, c10⟩, ⟨a1, a2, a3, a4, a5⟩, dr, n1, kp⟩⟩ : LnR) (⟨.slice none 0 0, .slice none 0 0, .slice none 0 0, ln0 4⟩ : LnR) (by rfl) (by rfl) (by rfl) ?_; intro W hT; have HT := Lib.hid hT; have e0 := hT.at_ (o := 0) rfl; have lz := hT.size; have e19 := hT.at_ (o := 19) rfl; clear hT) | (refine (id ?_ : wpList _ _ _ (⟨none, .store 29 _ _, _, _, _, _⟩ :: _) _ _); refine listSet rfl 29 (.tmp 80) (.tmp 79) rfl HT.out (⟨.slice none 0 0, .slice none 0 0, .slice KA kn kc, onlyKept kp⟩ : LnR) 19 (.slice KA kn kc) (by rfl) (by rfl) (by kernel_rfl) (Nat.le_of_ble_eq_true rfl) (by rfl) (by rfl) ?_; intro W2 hT; have HT2 := Lib.hid hT; have e2_19 := hT.at_ (o := 19) rfl; have lz2 := hT.size; clear hT))
  have H0 := Lib.hid (show KwRel w (⟨xv, dv, .slice KA kn kc, ⟨4, ⟨c0, c1, c2, c3, c4, c5, c6, c7, c8, c9, c10⟩, ⟨a1, a2, a3, a4, a5⟩, dr, n1, kp⟩⟩ : LnR) (⟨.slice none 0 0, .slice none 0 0, .slice KA kn kc, onlyKept kp⟩ : LnR) kp (.int .i64 0) W2 from ⟨0, Nat.zero_le _, rfl, by simp [keptOk], HT2.out⟩)
  clear e0 lz e19 e2_19 lz2
  go_loopw [4] (fun t4 wr => KwRel w (⟨xv, dv, .slice KA kn kc, ⟨4, ⟨c0, c1, c2, c3, c4, c5, c6, c7, c8, c9, c10⟩, ⟨a1, a2, a3, a4, a5⟩, dr, n1, kp⟩⟩ : LnR) (⟨.slice none 0 0, .slice none 0 0, .slice KA kn kc, onlyKept kp⟩ : LnR) kp t4 wr) (fun t4 _ => kn - (RowKit.intOf t4).toNat)
  case atStart => exact H0.out
  case round =>
    obtain ⟨q, hq, rfl, hok, hT⟩ := hrel
    rw [HKN.out] at hq
    have HOK0 := Lib.hid hok
    have HT3 := Lib.hid hT
    have e19 := hT.at_ (o := 19) rfl
    have lz := hT.size
    have hlow := hT.low
    clear hok hT H0
    by_cases hlt : q < kn
    · obtain ⟨ad, ⟨x1, x2⟩, e3, _, hbk, hx, d0, d1⟩ := HKV.out _ hlow q hlt
      cases e3
      dsimp only at d0 d1
      have HX := Lib.hid hx
      have hb2 : (ad.add (q * 2)).block < wr.heap.size := by rw [Base.add_block]; omega
      have HTA := Lib.hid (HT3.out.free (below_a1 wr (.cells #[.int .i64 x1, .int .i64 x2] 46)))
      clear hx hlow
      by_cases g0 : 0 ≤ x1
      rotate_left
      · have F := Lib.hid (right_no (fun h => g0 ((HIFF.out.1 h).2.1 _ (List.mem_of_getElem? HX.out)).1.1))
        have q0 : decide (x1 < 0) = true := decide_eq_true (by omega)
        clear g0
        go_wp2_with fail
        go_ret
        exact ⟨by rw [F.out]; rfl, HTA.out.low⟩
      have q0 : decide (x1 < 0) = false := decide_eq_false (by omega)
      by_cases g1 : x1 ≤ 4096
      rotate_left
      · have F := Lib.hid (right_no (fun h => g1 ((HIFF.out.1 h).2.1 _ (List.mem_of_getElem? HX.out)).1.2))
        have q1 : decide (x1 > 4096) = true := decide_eq_true (by omega)
        clear g1
        go_wp2_with fail
        go_ret
        exact ⟨by rw [F.out]; rfl, HTA.out.low⟩
      have q1 : decide (x1 > 4096) = false := decide_eq_false (by omega)
      by_cases g2 : 0 ≤ x2
      rotate_left
      · have F := Lib.hid (right_no (fun h => g2 ((HIFF.out.1 h).2.1 _ (List.mem_of_getElem? HX.out)).2.1))
        have q2 : decide (x2 < 0) = true := decide_eq_true (by omega)
        clear g2
        go_wp2_with fail
        go_ret
        exact ⟨by rw [F.out]; rfl, HTA.out.low⟩
      have q2 : decide (x2 < 0) = false := decide_eq_false (by omega)
      by_cases g3 : x2 ≤ 64
      rotate_left
      · have F := Lib.hid (right_no (fun h => g3 ((HIFF.out.1 h).2.1 _ (List.mem_of_getElem? HX.out)).2.2))
        have q3 : decide (x2 > 64) = true := decide_eq_true (by omega)
        clear g3
        go_wp2_with fail
        go_ret
        exact ⟨by rw [F.out]; rfl, HTA.out.low⟩
      have q3 : decide (x2 > 64) = false := decide_eq_false (by omega)
      have HF := Lib.hid (keptOk_next HX.out HOK0.out ⟨⟨g0, g1⟩, g2, g3⟩)
      clear g0 g1 g2 g3
      go_wp2_with fail
      exact ⟨⟨q + 1, by rw [HKN.out]; omega, by go_num, HF.out, HTA.out⟩, by simp [RowKit.intOf]; omega⟩
    · have HOK := Lib.hid (show keptOk kp by have h9 := HOK0.out; rwa [List.take_of_length_le (by rw [HKN.out]; omega)] at h9)
      clear hlow
      go_wp2_with (first | (refine (id ?_ : wpList _ _ _ (⟨some 111, .load _ _, _, _, _, _⟩ :: _) _ _); refine wpList_load_row rfl 31 (.tmp 3) rfl (w.heap.size + 1) (by rfl) _ _ _ _ HT3.out.b1 Tryz.underlying31 rfl (by kernel_rfl) ?_) | (refine (id ?_ : wpList _ _ _ (⟨some 112, .load _ _, _, _, _, _⟩ :: _) _ _); refine wpList_load_row rfl 31 (.tmp 1) rfl w.heap.size (by rfl) _ _ _ _ HT3.out.b0 Tryz.underlying31 rfl (by kernel_rfl) ?_))
      refine (HSM.out _ HT3.out.low).mono ?_
      rintro e w1 ⟨rfl, hb⟩
      have HB := Lib.hid (HT3.out.free hb)
      clear hb
      by_cases hs : (⟨4, ⟨c0, c1, c2, c3, c4, c5, c6, c7, c8, c9, c10⟩, ⟨a1, a2, a3, a4, a5⟩, dr, n1, kp⟩ : Ln) = onlyKept kp
      · have hs2 := hs.symm
        rw [sameL_yes hs2]
        have HS := Lib.hid hs
        clear hs2
        clear hs
        have f19 := HB.out.at_ (o := 19) rfl
        have fz := HB.out.size
        by_cases g1 : kn ≤ 256
        · have F := Lib.hid (right_yes (HIFF.out.2 ⟨HS.out, HOK.out, by rw [HKN.out]; exact g1⟩))
          have d2 : decide ((kn : Int) ≤ 256) = true := decide_eq_true (by omega)
          clear g1
          go_wp2_with fail
          go_ret
          exact ⟨by rw [F.out]; rfl, HB.out.low⟩
        · have F := Lib.hid (right_no (fun h => g1 (by have := (HIFF.out.1 h).2.2; rw [HKN.out] at this; exact this)))
          have d2 : decide ((kn : Int) ≤ 256) = false := decide_eq_false (by omega)
          clear g1
          go_wp2_with fail
          go_ret
          exact ⟨by rw [F.out]; rfl, HB.out.low⟩
      · rw [sameL_no (fun e => hs e.symm)]
        have F := Lib.hid (right_no (fun h => hs (HIFF.out.1 h).1))
        clear hs
        go_wp2_with fail
        go_ret
        exact ⟨by rw [F.out]; rfl, HB.out.low⟩
set_option maxHeartbeats 8000000 in
set_option maxRecDepth 100000 in
theorem RRight_5 (c0 c1 c2 c3 c4 c5 c6 c7 c8 c9 c10 a1 a2 : Int) (a3 : List Int) (a4 a5 : Int) (dr : List Nat) (n1 : Int) (kp : List (Int × Int)) (xv dv kv : Value) (lo : Nat) (w : World) (h : LnIn w lo w.heap.size ⟨xv, dv, kv, ⟨5, ⟨c0, c1, c2, c3, c4, c5, c6, c7, c8, c9, c10⟩, ⟨a1, a2, a3, a4, a5⟩, dr, n1, kp⟩⟩) (hd64 : ∀ x ∈ dr, x < 18446744073709551616) :
    Calls Tryz.prog 10 #[.agg #[.int .i64 5, .int .i64 c0, .int .i64 c1, .int .i64 c2, .int .i64 c3, .int .i64 c4, .int .i64 c5, .int .i64 c6, .int .i64 c7, .int .i64 c8, .int .i64 c9, .int .i64 c10, .int .i64 a1, .int .i64 a2, xv, .int .i64 a4, .int .i64 a5, dv, .int .i64 n1, kv]] w fun e w' => e = .returned (.bool (rightB ⟨5, ⟨c0, c1, c2, c3, c4, c5, c6, c7, c8, c9, c10⟩, ⟨a1, a2, a3, a4, a5⟩, dr, n1, kp⟩)) ∧ Below w.heap.size w w' := by
  have HIN := Lib.hid (fun (W : World) (hb : Below w.heap.size w W) => h.up hb)
  have HIFF := Lib.hid (right_open (l := (⟨5, ⟨c0, c1, c2, c3, c4, c5, c6, c7, c8, c9, c10⟩, ⟨a1, a2, a3, a4, a5⟩, dr, n1, kp⟩ : Ln)) rfl)
  (try dsimp only at HIFF)
  clear h hd64
  have HSM := Lib.hid (fun (W : World) (hb : Below w.heap.size w W) => RSame_any (⟨.slice none 0 0, .slice none 0 0, .slice none 0 0, ln0 5⟩ : LnR) (⟨xv, dv, kv, ⟨5, ⟨c0, c1, c2, c3, c4, c5, c6, c7, c8, c9, c10⟩, ⟨a1, a2, a3, a4, a5⟩, dr, n1, kp⟩⟩ : LnR) 0 lo W (nil_in _ _ ⟨rfl, rfl, rfl⟩) (HIN.out W hb))
  go_enter Tryz.func10, Tryz.ntmps10
  go_wp2_with (first | (refine (id ?_ : wpList _ _ _ (⟨none, .store 31 _ _, _, _, _, _⟩ :: _) _ _); refine listBox rfl (.tmp 3) (.tmp 8) rfl (⟨xv, dv, kv, ⟨5, ⟨c0, c1, c2, c3, c4, c5, c6, c7, c8, c9, c10⟩, ⟨a1, a2, a3, a4, a5⟩, dr, n1, kp⟩⟩ : LnR) (⟨.slice none 0 0, .slice none 0 0, .slice none 0 0, ln0 5⟩ : LnR) (by rfl) (by rfl) (by rfl) ?_; intro W hT; have HT := Lib.hid hT; have e0 := hT.at_ (o := 0) rfl; have lz := hT.size; clear hT) | (refine (id ?_ : wpList _ _ _ (⟨some 122, .load _ _, _, _, _, _⟩ :: _) _ _); refine wpList_load_row rfl 31 (.tmp 3) rfl (w.heap.size + 1) (by rfl) _ _ _ _ HT.out.b1 Tryz.underlying31 rfl (by kernel_rfl) ?_) | (refine (id ?_ : wpList _ _ _ (⟨some 123, .load _ _, _, _, _, _⟩ :: _) _ _); refine wpList_load_row rfl 31 (.tmp 1) rfl w.heap.size (by rfl) _ _ _ _ HT.out.b0 Tryz.underlying31 rfl (by kernel_rfl) ?_))
  refine (HSM.out _ HT.out.low).mono ?_
  rintro e w1 ⟨rfl, hb⟩
  have HB := Lib.hid (HT.out.free hb)
  clear hb
  by_cases hs : (⟨5, ⟨c0, c1, c2, c3, c4, c5, c6, c7, c8, c9, c10⟩, ⟨a1, a2, a3, a4, a5⟩, dr, n1, kp⟩ : Ln) = ln0 5
  · have hs2 := hs.symm
    rw [sameL_yes hs2]
    have HS := Lib.hid hs
    clear hs2
    have F := Lib.hid (right_yes (HIFF.out.2 hs))
    clear hs
    go_wp2_with fail
    go_ret
    exact ⟨by rw [F.out]; rfl, HB.out.low⟩
  · rw [sameL_no (fun e => hs e.symm)]
    have F := Lib.hid (right_no (fun h => hs (HIFF.out.1 h)))
    clear hs
    go_wp2_with fail
    go_ret
    exact ⟨by rw [F.out]; rfl, HB.out.low⟩
theorem RRight_any (r : LnR) (lo : Nat) (w : World) (h : LnIn w lo w.heap.size r) (hd64 : ∀ x ∈ r.ln.draws, x < 18446744073709551616) :
    Calls Tryz.prog 10 #[.agg (lnC r).toArray] w fun e w' => e = .returned (.bool (rightB r.ln)) ∧ Below w.heap.size w w' := by
  obtain ⟨xv, dv, kv, k1, ⟨c0, c1, c2, c3, c4, c5, c6, c7, c8, c9, c10⟩, ⟨a1, a2, a3, a4, a5⟩, dr, n1, kp⟩ := r
  dsimp only at hd64
  by_cases hk : k1 = 1 ∨ k1 = 2 ∨ k1 = 3 ∨ k1 = 4 ∨ k1 = 5
  · rcases hk with rfl | rfl | rfl | rfl | rfl
    · exact RRight_1 c0 c1 c2 c3 c4 c5 c6 c7 c8 c9 c10 a1 a2 a3 a4 a5 dr n1 kp xv dv kv lo w h hd64
    · exact RRight_2 c0 c1 c2 c3 c4 c5 c6 c7 c8 c9 c10 a1 a2 a3 a4 a5 dr n1 kp xv dv kv lo w h hd64
    · exact RRight_3 c0 c1 c2 c3 c4 c5 c6 c7 c8 c9 c10 a1 a2 a3 a4 a5 dr n1 kp xv dv kv lo w h hd64
    · exact RRight_4 c0 c1 c2 c3 c4 c5 c6 c7 c8 c9 c10 a1 a2 a3 a4 a5 dr n1 kp xv dv kv lo w h hd64
    · exact RRight_5 c0 c1 c2 c3 c4 c5 c6 c7 c8 c9 c10 a1 a2 a3 a4 a5 dr n1 kp xv dv kv lo w h hd64
  · exact RRight_0 k1 c0 c1 c2 c3 c4 c5 c6 c7 c8 c9 c10 a1 a2 a3 a4 a5 dr n1 kp xv dv kv lo w (by omega) h hd64
end Go.Proofs.YtchgfabgighbfaaGreatDoor.RrgW
