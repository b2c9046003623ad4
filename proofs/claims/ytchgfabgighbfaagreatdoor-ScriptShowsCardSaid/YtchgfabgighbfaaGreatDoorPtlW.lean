/- The reference's putLine (printed by mkptl.py). -/
import Derived.Test.YtchgfabgighbfaaGreatDoorRwdW
import Derived.Test.YtchgfabgighbfaaGreatDoorAskW
import Derived.Test.YtchgfabgighbfaaGreatDoorHzW
import Derived.Test.YtchgfabgighbfaaGreatDoorStpW
namespace Go.Proofs.YtchgfabgighbfaaGreatDoor.PtlW
set_option linter.unusedVariables false
set_option linter.unusedSimpArgs false
open Go.RowKit Go.Shelf Base SeqM ScrM ScrP ScrR TxtM GlbD RdsW EqlW LinV SchW AskW GsM RrwW RwdW HzW StpW

def LnPost (l : Ln) (w : World) (e : Ending) (w' : World) : Prop := ∃ r : LnR, e = .returned (.agg (lnC r).toArray) ∧ r.ln = l ∧ LnOw w' w.heap.size r ∧ Below w.heap.size w w'
theorem eltU : Elt Tryz.prog 28 44 (.int .u64 0) 1 8 := elt_mk (z := .int .u64 0) Tryz.underlying28 (by kernel_rfl) rfl (by omega) (by omega)
theorem put_exit : ∀ (ws : List Wd) (k : Nat), (∀ x ∈ ws.take k, x ≠ slash) → (ws[k]? = some slash ∨ k = ws.length) → putA ws = ws.take k ∧ putB ws = ws.drop (k + 1)
  | [], k, _, h => by simp [putA, putB]
  | x :: r, 0, _, h => by
    rcases h with h | h
    · obtain rfl : x = slash := by simpa using h
      simp [putA, putB]
    · simp at h
  | x :: r, k + 1, h0, h => by
    have hx : x ≠ slash := h0 x (by simp)
    have ih := put_exit r k (fun y hy => h0 y (by simp [hy])) (by simpa using h)
    unfold putA putB at ih ⊢
    rw [List.takeWhile_cons, List.dropWhile_cons, if_pos (by simpa using hx), if_pos (by simpa using hx), ih.1, ih.2]
    simp
theorem bytes_ne {x y : List UInt8} (h : x ≠ y) : ((⟨x.toArray⟩ : ByteArray) != ⟨y.toArray⟩) = true := by
  rw [bne, beq_bytes, decide_eq_false h]; rfl
theorem id_next {ws : List Wd} {k : Nat} {x : Wd} (h : ws[k]? = some x) : idF (ws.take (k + 1)) = if k = 0 then numF x else idF (ws.take k) := by
  cases ws with
  | nil => simp at h
  | cons y r =>
    cases k with
    | zero => obtain rfl : y = x := by simpa using h
              rfl
    | succ k => rfl
theorem tail_next {ws : List Wd} {k : Nat} {x : Wd} (h : ws[k]? = some x) : (ws.take (k + 1)).tail.map numF = if k = 0 then [] else (ws.take k).tail.map numF ++ [numF x] := by
  cases ws with
  | nil => simp at h
  | cons y r =>
    cases k with
    | zero => rfl
    | succ k =>
      have h' : r[k]? = some x := by simpa using h
      rw [if_neg (by omega), List.take_succ_cons, List.tail_cons, take_next h', List.map_append]; rfl
/-- a row of numbers that has grown: the line is one's own still -/
theorem grown_xs {w w' : World} {base : Nat} {xv xv' dv kv : Value} {l : Ln} {ys : List Int} {i n m k : Int} (h : LnOw w base ⟨xv, dv, kv, l⟩) (hg : w.grownBy w' xv.ownBlock) (ho : w'.ownsRow base 3 1 xv' ys.length (ys.flatMap inC)) : LnOw w' base ⟨xv', dv, kv, { l with ak := ⟨k, i, ys, n, m⟩ }⟩ :=
  ⟨ho, own_keep h.ds (fun k hk ht => grown_keep h.xs hg (by decide) hk ht), own_keep h.ks (fun k hk ht => grown_keep h.xs hg (by decide) hk ht)⟩
theorem grown_ds {w w' : World} {base : Nat} {xv dv' dv kv : Value} {l : Ln} {ys : List Nat} (h : LnOw w base ⟨xv, dv, kv, l⟩) (hg : w.grownBy w' dv.ownBlock) (ho : w'.ownsRow base 44 1 dv' ys.length (ys.flatMap u6C)) : LnOw w' base ⟨xv, dv', kv, { l with draws := ys }⟩ :=
  ⟨own_keep h.xs (fun k hk ht => grown_keep h.ds hg (by decide) hk ht), ho, own_keep h.ks (fun k hk ht => grown_keep h.ds hg (by decide) hk ht)⟩
/-- the two boxes of a line that is made -/
structure Bx (w : World) (r : LnR) (W : World) : Prop where
  res : W.heap[w.heap.size]? = some (.cells #[.int .i64 0, .int .i64 0, .int .i64 0, .int .i64 0, .int .i64 0, .int .i64 0, .int .i64 0, .int .i64 0, .int .i64 0, .int .i64 0, .int .i64 0, .int .i64 0, .int .i64 0, .int .i64 0, .slice none 0 0, .int .i64 0, .int .i64 0, .slice none 0 0, .int .i64 0, .slice none 0 0] 31 (0, 0))
  box : W.heap[w.heap.size + 1]? = some (.cells (lnC r).toArray 31 (0, 0))
  own : LnOw W w.heap.size r
  low : Below w.heap.size w W
theorem Bx.size {w W : World} {r : LnR} (h : Bx w r W) : w.heap.size + 2 ≤ W.heap.size := (Array.getElem?_eq_some_iff.1 h.box).1
theorem Bx.free {w W W' : World} {r : LnR} (h : Bx w r W) (hb : Below W.heap.size W W') : Bx w r W' :=
  ⟨(hb.block _ (by have := h.size; omega)).trans h.res, (hb.block _ (by have := h.size; omega)).trans h.box, h.own.below hb, bt hb h.low⟩
/-- the box is stored anew -/
theorem Bx.set {w W : World} {r r' : LnR} (h : Bx w r W) (ho : LnOw W w.heap.size r') : Bx w r' (W.setRow (w.heap.size + 1) (lnC r').toArray) :=
  ⟨(row_other (by omega)).trans h.res, row_heap h.box, ho.row h.box, below_row h.low (by omega)⟩
theorem Bx.at_ {w W : World} {r : LnR} (h : Bx w r W) {o : Nat} {v : Value} (hv : (lnC r)[o]? = some v) : W.cell? ⟨w.heap.size + 1, o, none⟩ = some v := cell_of h.box (by simpa using hv)
/-- a row of the line's grows: the boxes stay -/
theorem Bx.grown {w W W' : World} {r : LnR} (h : Bx w r W) {e : TypeId} {n : Nat} {v : Value} {xs : List Value} (hv : W.ownsRow w.heap.size e 1 v n xs) (hne : e ≠ 31) (hg : W.grownBy W' v.ownBlock) :
    W'.heap[w.heap.size]? = some (.cells #[.int .i64 0, .int .i64 0, .int .i64 0, .int .i64 0, .int .i64 0, .int .i64 0, .int .i64 0, .int .i64 0, .int .i64 0, .int .i64 0, .int .i64 0, .int .i64 0, .int .i64 0, .int .i64 0, .slice none 0 0, .int .i64 0, .int .i64 0, .slice none 0 0, .int .i64 0, .slice none 0 0] 31 (0, 0)) ∧ W'.heap[w.heap.size + 1]? = some (.cells (lnC r).toArray 31 (0, 0)) ∧ Below w.heap.size w W' :=
  ⟨(grown_keep hv hg (Ne.symm hne) (by have := h.size; omega) ⟨_, _, h.res⟩).trans h.res, (grown_keep hv hg (Ne.symm hne) (by have := h.size; omega) ⟨_, _, h.box⟩).trans h.box, below_own h.low hv hg (Nat.le_refl _) (by have := h.size; omega)⟩
theorem bx_new (w : World) (r : LnR) (h1 : r.xv = .slice none 0 0) (h2 : r.dv = .slice none 0 0) (h3 : r.kv = .slice none 0 0) (h : r.ln.ak.xs = [] ∧ r.ln.draws = [] ∧ r.ln.kept = []) : Bx w r (((w.alloc (.cells #[.int .i64 0, .int .i64 0, .int .i64 0, .int .i64 0, .int .i64 0, .int .i64 0, .int .i64 0, .int .i64 0, .int .i64 0, .int .i64 0, .int .i64 0, .int .i64 0, .int .i64 0, .int .i64 0, .slice none 0 0, .int .i64 0, .int .i64 0, .slice none 0 0, .int .i64 0, .slice none 0 0] 31)).alloc (.cells #[.int .i64 0, .int .i64 0, .int .i64 0, .int .i64 0, .int .i64 0, .int .i64 0, .int .i64 0, .int .i64 0, .int .i64 0, .int .i64 0, .int .i64 0, .int .i64 0, .int .i64 0, .int .i64 0, .slice none 0 0, .int .i64 0, .int .i64 0, .slice none 0 0, .int .i64 0, .slice none 0 0] 31)).setRow (w.heap.size + 1) (lnC r).toArray) := by
  obtain ⟨xv, dv, kv, l⟩ := r
  subst h1 h2 h3
  exact ⟨(row_other (by omega)).trans (heap_alloc2_old w _ _), row_heap (alloc2_new w _ _), (LnOw.nil_ h).row (alloc2_new w _ _), below_row (below_a2 w _ _) (by omega)⟩
def p1 (xv dv : Value) (id : Int) (xs : List Int) (ds : List Nat) : LnR := ⟨xv, dv, .slice none 0 0, onlyAk ⟨1, id, xs, 0, 0⟩ ds⟩
theorem grown_drew {w w' : World} {r : Option Nat} (h : w.drew.grownBy w' r) : w.grownBy w' r := ⟨h.os, h.tape, h.output, h.size, h.block⟩
theorem LnOw.re {w : World} {base : Nat} {r r' : LnR} (h : LnOw w base r) (h1 : r.xv = r'.xv ∧ r.ln.ak.xs = r'.ln.ak.xs) (h2 : r.dv = r'.dv ∧ r.ln.draws = r'.ln.draws) (h3 : r.kv = r'.kv ∧ r.ln.kept = r'.ln.kept) : LnOw w base r' :=
  ⟨by rw [← h1.1, ← h1.2]; exact h.xs, by rw [← h2.1, ← h2.2]; exact h.ds, by rw [← h3.1, ← h3.2]; exact h.ks⟩
theorem Bx.push_ds {w W w2 : World} {xv dv dv' : Value} {id : Int} {xs : List Int} {ds ds' : List Nat} (h : Bx w (p1 xv dv id xs ds) W) (hg : W.grownBy w2 dv.ownBlock) (ho : w2.ownsRow w.heap.size 44 1 dv' ds'.length (ds'.flatMap u6C)) :
    Bx w (p1 xv dv' id xs ds') (w2.setRow (w.heap.size + 1) (lnC (p1 xv dv' id xs ds')).toArray) := by
  obtain ⟨h1, h2, h3⟩ := h.grown h.own.ds (by decide) hg
  exact ⟨(row_other (by omega)).trans h1, row_heap h2, (grown_ds h.own hg ho).row h2, below_row h3 (by omega)⟩
theorem Bx.push_xs {w W w2 : World} {xv xv' dv : Value} {id : Int} {xs xs' : List Int} {ds : List Nat} (h : Bx w (p1 xv dv id xs ds) W) (hg : W.grownBy w2 xv.ownBlock) (ho : w2.ownsRow w.heap.size 3 1 xv' xs'.length (xs'.flatMap inC)) :
    Bx w (p1 xv' dv id xs' ds) (w2.setRow (w.heap.size + 1) (lnC (p1 xv' dv id xs' ds)).toArray) := by
  obtain ⟨h1, h2, h3⟩ := h.grown h.own.xs (by decide) hg
  exact ⟨(row_other (by omega)).trans h1, row_heap h2, (show LnOw _ _ (p1 xv' dv id xs' ds) from grown_xs h.own hg ho).row h2, below_row h3 (by omega)⟩
def P1Rel (ws : List Wd) (w : World) (t4 : Value) (wr : World) : Prop := ∃ (k : Nat) (A : Option Addr) (n cap : Nat), k ≤ ws.length ∧ t4 = .int .i64 k ∧ (∀ x ∈ ws.take k, x ≠ slash) ∧ n = ((ws.take k).tail.map numF).length ∧ n ≤ k ∧ Bx w (p1 (.slice A n cap) (.slice none 0 0) (idF (ws.take k)) ((ws.take k).tail.map numF) []) wr
def P2Rel (k : Nat) (B : List Wd) (xv : Value) (id : Int) (xs : List Int) (w : World) (t4 : Value) (wr : World) : Prop := ∃ (j i : Nat) (D : Option Addr) (dc : Nat), i = k + 1 + j ∧ j ≤ B.length ∧ t4 = .int .i64 (i : Int) ∧ Bx w (p1 xv (.slice D j dc) id xs ((B.take j).map bigF)) wr
set_option maxHeartbeats 8000000 in
set_option maxRecDepth 100000 in
theorem putLine_any (v : Value) (ws : List Wd) (lo : Nat) (w : World) (h : Seq 1 wdC w lo w.heap.size v ws) (hl : ws.length ≤ 1000001) (hw : ∀ x ∈ ws, x.length ≤ 1000000) :
    Calls Tryz.prog 61 #[v] w (LnPost (putF ws) w) := by
  obtain ⟨A0, ca, rfl, hc1, hc2, _⟩ := id h
  unfold maxLen at hc2
  obtain ⟨n, hn⟩ : ∃ n, ws.length = n := ⟨_, rfl⟩
  have HN := Lib.hid hn
  have HW := Lib.hid hw
  have HV := Lib.hid (fun (W : World) (hb : Below w.heap.size w W) (k : Nat) (hlt : k < n) => by
    obtain ⟨A', cap', e', _, _, hr, _⟩ := h.below hb
    cases e'
    exact rdW hr (i := k) (by rw [hn]; exact hlt))
  rw [hn] at hl hc1 ⊢
  clear h hn hw
  go_enter Tryz.func61, Tryz.ntmps61
  go_wp2_with (refine (id ?_ : wpList _ _ _ (⟨none, .store _ _ _, _, _, _, _⟩ :: _) _ _); refine wpList_store_row rfl 31 (.tmp 3) (.tmp 6) rfl (w.heap.size + 1) _ (by rfl) (by rfl) 31 _ (alloc2_new w _ _) (by kernel_rfl) (by rfl) (all_one _ (by rfl)) ?_)
  have H0 := Lib.hid (bx_new w (p1 (.slice none 0 0) (.slice none 0 0) 0 [] []) rfl rfl rfl ⟨rfl, rfl, rfl⟩)
  go_wp2_with fail
  go_loopw [4] (fun t4 wr => P1Rel ws w t4 wr) (fun t4 _ => n - (RowKit.intOf t4).toNat)
  case atStart => exact ⟨0, none, 0, 0, Nat.zero_le _, rfl, by simp, rfl, Nat.le_refl _, H0.out⟩
  case round =>
    obtain ⟨k, A, xn, cap, hk, rfl, hns, hxn, hxk, hbx⟩ := hrel
    rw [HN.out] at hk
    have HNS := Lib.hid hns
    have HXN := Lib.hid hxn
    have HB := Lib.hid hbx
    have hsz := hbx.size
    have hlow := hbx.low
    clear hns hxn hbx H0
    by_cases hlt : k < n
    · obtain ⟨ad, x, e2, _, hbk, hx, hcell⟩ := HV.out wr hlow k hlt
      cases e2
      have HX := Lib.hid hx
      have HXL := Lib.hid (HW.out x (List.mem_of_getElem? hx))
      by_cases hsl : x = slash
      · subst hsl
        have HPE := Lib.hid (put_exit ws k HNS.out (.inl hx))
        unfold slash at hcell
        obtain ⟨B, hB⟩ : ∃ B, ws.drop (k + 1) = B := ⟨_, rfl⟩
        obtain ⟨id0, hid0⟩ : ∃ x, idF (ws.take k) = x := ⟨_, rfl⟩
        obtain ⟨xs0, hxs0⟩ : ∃ x, (ws.take k).tail.map numF = x := ⟨_, rfl⟩
        have HBB := Lib.hid hB
        have HRES := Lib.hid (show putF ws = onlyAk ⟨1, id0, xs0, 0, 0⟩ (B.map bigF) by unfold putF; rw [HPE.out.1, HPE.out.2, hB, hid0, hxs0])
        have HBL := Lib.hid (show B.length = n - (k + 1) by rw [← hB, List.length_drop, HN.out])
        have HGB := Lib.hid (fun (j : Nat) (x : Wd) (hx : ws[k + 1 + j]? = some x) => show B[j]? = some x by rw [← hB, List.getElem?_drop]; exact hx)
        have hb2 := HB.out
        rw [hid0, hxs0] at hb2
        have H2 := Lib.hid (show P2Rel k B (.slice A xn cap) id0 xs0 w (.int .i64 ((k : Int) + 1)) wr from ⟨0, k + 1, none, 0, rfl, Nat.zero_le _, by go_num, hb2⟩)
        clear hb2 hB hid0 hxs0 hlow hx
        go_wp2_with fail
        go_loopw [4] (fun t4 wr => P2Rel k B (.slice A xn cap) id0 xs0 w t4 wr) (fun t4 _ => n - (RowKit.intOf t4).toNat)
        case atStart => exact H2.out
        case round =>
          obtain ⟨j, i, D, dc, hi, hj, rfl, hbx⟩ := hrel
          have HD := Lib.hid hbx
          have hsz2 := hbx.size
          have hlow2 := hbx.low
          rw [HBL.out] at hj
          have HI := Lib.hid hi
          clear hbx H2
          by_cases hlt : i < n
          · obtain ⟨ad, x, e2, _, hbk, hx, hcell⟩ := HV.out _ hlow2 i hlt
            cases e2
            have HXL := Lib.hid (HW.out x (List.mem_of_getElem? hx))
            have HX := Lib.hid (HGB.out j x (by rw [← hi]; exact hx))
            have HC := Lib.hid (HD.out.at_ (o := 17) rfl)
            have HCX := Lib.hid hcell
            have HDL := Lib.hid (show ((B.take j).map bigF).length = j by rw [List.length_map, List.length_take, HBL.out]; omega)
            have HO := Lib.hid (show wr.ownsRow w.heap.size 44 1 (.slice D j dc) j (((B.take j).map bigF).flatMap u6C) by have h9 := HD.out.own.ds; rw [show (p1 (.slice A xn cap) (.slice D j dc) id0 xs0 ((B.take j).map bigF)).ln.draws = (B.take j).map bigF from rfl, HDL.out] at h9; exact h9)
            have hjn : j < 1073741824 := by omega
            clear hx hcell hlow2 hi
            go_wp2_with fail
            refine regionZ 10 (fun w' => w'.cell? ⟨w.heap.size + 1, 17, none⟩ = some (.slice D j dc) ∧ w'.cell? (ad.add i) = some (.string ⟨x.toArray⟩)) (by kernel_rfl) (⟨HC.out, HCX.out⟩) (fun hH => ?_)
            refine takeZ 0 (v := ?_) (by rfl) (by kernel_rfl) (by exact fun _ _ _ h => h) hH (.inl ⟨rfl, fun w hW => ?_⟩) ?_
            rotate_left
            · (go_simp; try with_reducible rfl)
            try simp only [Act.put, List.setIfInBounds_toArray, List.set_cons_zero, List.set_cons_succ]
            refine takeZ 1 (v := ?_) (by rfl) (by kernel_rfl) (by exact fun _ _ _ h => h) hH (.inl ⟨rfl, fun w hW => ?_⟩) ?_
            rotate_left
            · (obtain ⟨hW1, hW2⟩ := hW; go_simp; try with_reducible rfl)
            try simp only [Act.put, List.setIfInBounds_toArray, List.set_cons_zero, List.set_cons_succ]
            refine takeZ 2 (v := ?_) (by rfl) (by kernel_rfl) (by exact fun _ _ _ h => h) hH (.inl ⟨rfl, fun w hW => ?_⟩) ?_
            rotate_left
            · (go_simp; try with_reducible rfl)
            try simp only [Act.put, List.setIfInBounds_toArray, List.set_cons_zero, List.set_cons_succ]
            refine takeZ 3 (v := ?_) (by rfl) (by kernel_rfl) (by exact fun _ _ _ h => h) hH (.inl ⟨rfl, fun w hW => ?_⟩) ?_
            rotate_left
            · (go_simp; try with_reducible rfl)
            try simp only [Act.put, List.setIfInBounds_toArray, List.set_cons_zero, List.set_cons_succ]
            refine takeZ 4 (v := ?_) (by rfl) (by kernel_rfl) (by exact fun _ _ _ h => h) hH (.inl ⟨rfl, fun w hW => ?_⟩) ?_
            rotate_left
            · (go_simp; try with_reducible rfl)
            try simp only [Act.put, List.setIfInBounds_toArray, List.set_cons_zero, List.set_cons_succ]
            refine takeZ 5 (v := ?_) (by rfl) (by kernel_rfl) (by exact fun _ _ _ h => h) hH (.inl ⟨rfl, fun w hW => ?_⟩) ?_
            rotate_left
            · (obtain ⟨hW1, hW2⟩ := hW; go_simp; try with_reducible rfl)
            try simp only [Act.put, List.setIfInBounds_toArray, List.set_cons_zero, List.set_cons_succ]
            refine oneZ 6 (by kernel_rfl) (by rfl) (fun K hK => ?_)
            go_simp
            refine (big_any x HXL.out _).mono ?_
            rintro e w1 ⟨rfl, rfl⟩
            refine hK.out _ _ (fun _ => ⟨HC.out, HCX.out⟩) (fun hH => ?_)
            replace hH := hH (by decide)
            clear hK K
            try simp only [Act.put, List.setIfInBounds_toArray, List.set_cons_zero, List.set_cons_succ]
            refine oneZ 7 (by kernel_rfl) (by rfl) (fun K hK => ?_)
            try go_wp2_with fail
            refine hK.out _ _ (fun _ => ⟨by first | exact keepA (below_a1 _ _) HC.out | (simp; exact HC.out), by first | exact keepA (below_a1 _ _) HCX.out | (simp; exact HCX.out)⟩) (fun hH => ?_)
            replace hH := hH (by decide)
            clear hK K
            try simp only [Act.put, List.setIfInBounds_toArray, List.set_cons_zero, List.set_cons_succ]
            refine oneZ 8 (by kernel_rfl) (by rfl) (fun K hK => ?_)
            refine stepA wr.drew #[.int .u64 ((bigF x : Nat) : Int)] rfl (.tmp 50) (.tmp 56) _ rfl eltU w.heap.size D j dc _ (by rfl) HO.out (by rfl) rfl (by simp [Value.oneCell']) hjn (by show w.heap.size ≤ wr.heap.size; omega) ?_
            intro D2 dc2 w2 happ
            have HAP := Lib.hid happ
            clear happ
            have hgr := HD.out.grown HO.out (by decide) (grown_drew HAP.out.grown)
            have HG := Lib.hid hgr
            clear hgr
            refine hK.out _ _ (fun _ => ⟨cell_of HG.out.2.1 (o := 17) rfl, (HAP.out.below.cell (by rw [Base.add_block]; exact hbk)).trans HCX.out⟩) (fun hH => ?_)
            replace hH := hH (by decide)
            clear hK K
            try simp only [Act.put, List.setIfInBounds_toArray, List.set_cons_zero, List.set_cons_succ]
            refine takeZ 9 (v := ?_) (by rfl) (by kernel_rfl) (by exact fun _ _ _ h => h) hH (.inl ⟨rfl, fun w hW => ?_⟩) ?_
            rotate_left
            · (go_simp; try with_reducible rfl)
            try simp only [Act.put, List.setIfInBounds_toArray, List.set_cons_zero, List.set_cons_succ]
            refine oneZ 10 (by kernel_rfl) (by rfl) (fun K hK => ?_)
            refine stepStore rfl 28 (.tmp 58) (.tmp 57) rfl (w.heap.size + 1) 17 (.slice D2 (j + 1) dc2) (by rfl) (by rfl) 31 _ (lnC (p1 (.slice A xn cap) (.slice D2 (j + 1) dc2) id0 xs0 ((B.take j).map bigF ++ [bigF x]))).toArray HG.out.2.1 (by kernel_rfl) (Nat.le_of_ble_eq_true rfl) (by simp [Value.cells, Value.oneCell']) rfl ?_
            refine hK.out _ _ (fun h => absurd rfl h) (fun hH => ?_)
            clear hK K
            try simp only [Act.put, List.setIfInBounds_toArray, List.set_cons_zero, List.set_cons_succ]
            refine doneZ (by kernel_rfl) ?_ _
            have HF := Lib.hid (HD.out.push_ds (ds' := (B.take j).map bigF ++ [bigF x]) (grown_drew HAP.out.grown) (by have h9 := HAP.out.own; rw [List.flatMap_append, List.length_append, HDL.out]; exact h9))
            clear hH
            go_wp2_with fail
            exact ⟨⟨j + 1, i + 1, D2, dc2, by have := HI.out; omega, by rw [HBL.out]; have := HI.out; omega, by go_num, by rw [take_next HX.out, List.map_append]; exact HF.out⟩, by simp [RowKit.intOf]; omega⟩
          · have HJ := Lib.hid (show B.take j = B from List.take_of_length_le (by rw [HBL.out]; omega))
            have HE := HD
            clear hlow2 hi
            go_wp2_with (first
              | (refine (id ?_ : wpList _ _ _ (⟨some 59, .load _ _, _, _, _, _⟩ :: _) _ _); refine wpList_load_row rfl 31 (.tmp 3) rfl (w.heap.size + 1) (by rfl) _ _ _ _ HE.out.box Tryz.underlying31 rfl (by kernel_rfl) ?_)
              | (refine (id ?_ : wpList _ _ _ (⟨none, .store _ _ _, _, _, _, _⟩ :: _) _ _); refine wpList_store_row rfl 31 (.tmp 2) (.tmp 59) rfl w.heap.size _ (by rfl) (by rfl) 31 _ HE.out.res (by kernel_rfl) (by rfl) (all_one _ (by rfl)) ?_))
            have hF := setRow_heap _ _ _ (lnC (p1 (.slice A xn cap) (.slice D j dc) id0 xs0 ((B.take j).map bigF))).toArray _ _ HE.out.res
            refine bodyPost_ret (v := .agg (lnC (p1 (.slice A xn cap) (.slice D j dc) id0 xs0 ((B.take j).map bigF))).toArray) (results_cell_row (p := 2) (by kernel_rfl) _ _ w.heap.size _ _ _ _ (by rfl) hF Tryz.underlying31 rfl (by kernel_rfl)) rfl ?_
            exact ⟨_, rfl, by rw [HRES.out, HJ.out]; rfl, HE.out.own.row HE.out.res, below_row HE.out.low (Nat.le_refl _)⟩
      · have HNN := Lib.hid (show ∀ u ∈ ws.take (k + 1), u ≠ slash from fun u hu => by rw [take_next hx] at hu; rcases List.mem_append.1 hu with hu | hu; exact HNS.out u hu; rw [List.mem_singleton.1 hu]; exact hsl)
        have HID := Lib.hid (id_next hx)
        have HTL := Lib.hid (tail_next hx)
        have hq1 : ((⟨x.toArray⟩ : ByteArray) != ⟨#[47]⟩) = true := bytes_ne (y := [47]) hsl
        have hq2 : (x == [47]) = false := beq_eq_false_iff_ne.2 hsl
        clear hsl hx
        by_cases hk0 : k = 0
        · subst hk0
          have hcell0 : wr.cell? ad = some (.string ⟨x.toArray⟩) := by have h9 := hcell; unfold Addr.add at h9; simpa using h9
          have HI0 := Lib.hid (show idF (ws.take 1) = numF x by have := HID.out; rwa [if_pos rfl] at this)
          have HT0 := Lib.hid (show (ws.take 1).tail.map numF = [] by have := HTL.out; rwa [if_pos rfl] at this)
          obtain rfl : xn = 0 := by omega
          have HX0 := Lib.hid (show ((ws.take 0).tail.map numF) = [] from rfl)
          have hb3 := HB.out
          rw [HX0.out] at hb3
          have HB3 := Lib.hid hb3
          clear hb3
          go_wp2_with (refine (id ?_ : wpList _ _ _ (⟨none, .store _ _ _, _, _, _, _⟩ :: _) _ _); refine listStore rfl 3 (.tmp 26) (.tmp 24) rfl (w.heap.size + 1) 13 (.int .i64 (numF x)) (by rfl) (by rfl) 31 _ (lnC (p1 (.slice A 0 cap) (.slice none 0 0) (numF x) [] [])).toArray HB3.out.box (by kernel_rfl) (Nat.le_of_ble_eq_true rfl) (by simp [Value.cells, Value.oneCell']) rfl ?_)
          refine (number_any x HXL.out _).mono ?_
          rintro e w1 ⟨rfl, rfl⟩
          go_wp2_with (refine (id ?_ : wpList _ _ _ (⟨none, .store _ _ _, _, _, _, _⟩ :: _) _ _); refine listStore rfl 3 (.tmp 26) (.tmp 24) rfl (w.heap.size + 1) 13 (.int .i64 (numF x)) (by rfl) (by rfl) 31 _ (lnC (p1 (.slice A 0 cap) (.slice none 0 0) (numF x) [] [])).toArray HB3.out.box (by kernel_rfl) (Nat.le_of_ble_eq_true rfl) (by simp [Value.cells, Value.oneCell']) rfl ?_)
          exact ⟨⟨1, A, 0, cap, by rw [HN.out]; omega, by go_num, HNN.out, by rw [HT0.out]; rfl, by omega, by rw [HI0.out, HT0.out]; exact HB3.out.set (LnOw.re HB3.out.own ⟨rfl, rfl⟩ ⟨rfl, rfl⟩ ⟨rfl, rfl⟩)⟩, by simp [RowKit.intOf]; omega⟩
        · have HI0 := Lib.hid (show idF (ws.take (k + 1)) = idF (ws.take k) by have := HID.out; rwa [if_neg hk0] at this)
          have HT0 := Lib.hid (show (ws.take (k + 1)).tail.map numF = (ws.take k).tail.map numF ++ [numF x] by have := HTL.out; rwa [if_neg hk0] at this)
          obtain ⟨id0, hid0⟩ : ∃ y, idF (ws.take k) = y := ⟨_, rfl⟩
          obtain ⟨xs0, hxs0⟩ : ∃ y, (ws.take k).tail.map numF = y := ⟨_, rfl⟩
          rw [hid0] at HI0 HB
          rw [hxs0] at HXN HT0 HB
          have HO := Lib.hid (show wr.ownsRow w.heap.size 3 1 (.slice A xn cap) xn (xs0.flatMap inC) by have h9 := HB.out.own.xs; rw [show (p1 (.slice A xn cap) (.slice none 0 0) id0 xs0 []).ln.ak.xs = xs0 from rfl, ← HXN.out] at h9; exact h9)
          have HC := Lib.hid (HB.out.at_ (o := 14) rfl)
          have HCX := Lib.hid hcell
          have hq3 : ((k : Int) == 0) = false := beq_eq_false_iff_ne.2 (by omega)
          have hjn : xn < 1073741824 := by omega
          clear hlow hid0 hxs0 hk0
          go_wp2_with fail
          clear hcell
          refine regionZ 12 (fun w' => w'.cell? ⟨w.heap.size + 1, 14, none⟩ = some (.slice A xn cap) ∧ w'.cell? (ad.add k) = some (.string ⟨x.toArray⟩)) (by kernel_rfl) (⟨HC.out, HCX.out⟩) (fun hH => ?_)
          refine takeZ 0 (v := ?_) (by rfl) (by kernel_rfl) (by exact fun _ _ _ h => h) hH (.inl ⟨rfl, fun w hW => ?_⟩) ?_
          rotate_left
          · (go_simp; try with_reducible rfl)
          try simp only [Act.put, List.setIfInBounds_toArray, List.set_cons_zero, List.set_cons_succ]
          refine takeZ 1 (v := ?_) (by rfl) (by kernel_rfl) (by exact fun _ _ _ h => h) hH (.inl ⟨rfl, fun w hW => ?_⟩) ?_
          rotate_left
          · (go_simp; try with_reducible rfl)
          try simp only [Act.put, List.setIfInBounds_toArray, List.set_cons_zero, List.set_cons_succ]
          refine takeZ 2 (v := ?_) (by rfl) (by kernel_rfl) (by exact fun _ _ _ h => h) hH (.inl ⟨rfl, fun w hW => ?_⟩) ?_
          rotate_left
          · (obtain ⟨hW1, hW2⟩ := hW; go_simp; try with_reducible rfl)
          try simp only [Act.put, List.setIfInBounds_toArray, List.set_cons_zero, List.set_cons_succ]
          refine takeZ 3 (v := ?_) (by rfl) (by kernel_rfl) (by exact fun _ _ _ h => h) hH (.inl ⟨rfl, fun w hW => ?_⟩) ?_
          rotate_left
          · (go_simp; try with_reducible rfl)
          try simp only [Act.put, List.setIfInBounds_toArray, List.set_cons_zero, List.set_cons_succ]
          refine takeZ 4 (v := ?_) (by rfl) (by kernel_rfl) (by exact fun _ _ _ h => h) hH (.inl ⟨rfl, fun w hW => ?_⟩) ?_
          rotate_left
          · (go_simp; try with_reducible rfl)
          try simp only [Act.put, List.setIfInBounds_toArray, List.set_cons_zero, List.set_cons_succ]
          refine takeZ 5 (v := ?_) (by rfl) (by kernel_rfl) (by exact fun _ _ _ h => h) hH (.inl ⟨rfl, fun w hW => ?_⟩) ?_
          rotate_left
          · (go_simp; try with_reducible rfl)
          try simp only [Act.put, List.setIfInBounds_toArray, List.set_cons_zero, List.set_cons_succ]
          refine takeZ 6 (v := ?_) (by rfl) (by kernel_rfl) (by exact fun _ _ _ h => h) hH (.inl ⟨rfl, fun w hW => ?_⟩) ?_
          rotate_left
          · (obtain ⟨hW1, hW2⟩ := hW; go_simp; try with_reducible rfl)
          try simp only [Act.put, List.setIfInBounds_toArray, List.set_cons_zero, List.set_cons_succ]
          refine oneZ 7 (by kernel_rfl) (by rfl) (fun K hK => ?_)
          go_simp
          refine (number_any x HXL.out _).mono ?_
          rintro e w1 ⟨rfl, rfl⟩
          refine hK.out _ _ (fun _ => ⟨HC.out, HCX.out⟩) (fun hH => ?_)
          replace hH := hH (by decide)
          clear hK K
          try simp only [Act.put, List.setIfInBounds_toArray, List.set_cons_zero, List.set_cons_succ]
          refine oneZ 8 (by kernel_rfl) (by rfl) (fun K hK => ?_)
          try go_wp2_with fail
          refine hK.out _ _ (fun _ => ⟨by first | exact keepA (below_a1 _ _) HC.out | (simp; exact HC.out), by first | exact keepA (below_a1 _ _) HCX.out | (simp; exact HCX.out)⟩) (fun hH => ?_)
          replace hH := hH (by decide)
          clear hK K
          try simp only [Act.put, List.setIfInBounds_toArray, List.set_cons_zero, List.set_cons_succ]
          refine oneZ 9 (by kernel_rfl) (by rfl) (fun K hK => ?_)
          refine stepA wr.drew #[.int .i64 (numF x)] rfl (.tmp 29) (.tmp 35) _ rfl eltI w.heap.size A xn cap _ (by rfl) HO.out (by rfl) rfl (by simp [Value.oneCell']) hjn (by show w.heap.size ≤ wr.heap.size; omega) ?_
          intro D2 dc2 w2 happ
          have HAP := Lib.hid happ
          clear happ
          have hgr := HB.out.grown HO.out (by decide) (grown_drew HAP.out.grown)
          have HG := Lib.hid hgr
          clear hgr
          refine hK.out _ _ (fun _ => ⟨cell_of HG.out.2.1 (o := 14) rfl, (HAP.out.below.cell (by rw [Base.add_block]; exact hbk)).trans HCX.out⟩) (fun hH => ?_)
          replace hH := hH (by decide)
          clear hK K
          try simp only [Act.put, List.setIfInBounds_toArray, List.set_cons_zero, List.set_cons_succ]
          refine takeZ 10 (v := ?_) (by rfl) (by kernel_rfl) (by exact fun _ _ _ h => h) hH (.inl ⟨rfl, fun w hW => ?_⟩) ?_
          rotate_left
          · (go_simp; try with_reducible rfl)
          try simp only [Act.put, List.setIfInBounds_toArray, List.set_cons_zero, List.set_cons_succ]
          refine takeZ 11 (v := ?_) (by rfl) (by kernel_rfl) (by exact fun _ _ _ h => h) hH (.inl ⟨rfl, fun w hW => ?_⟩) ?_
          rotate_left
          · (go_simp; try with_reducible rfl)
          try simp only [Act.put, List.setIfInBounds_toArray, List.set_cons_zero, List.set_cons_succ]
          refine oneZ 12 (by kernel_rfl) (by rfl) (fun K hK => ?_)
          refine stepStore rfl 25 (.tmp 38) (.tmp 36) rfl (w.heap.size + 1) 14 (.slice D2 (xn + 1) dc2) (by rfl) (by rfl) 31 _ (lnC (p1 (.slice D2 (xn + 1) dc2) (.slice none 0 0) id0 (xs0 ++ [numF x]) [])).toArray HG.out.2.1 (by kernel_rfl) (Nat.le_of_ble_eq_true rfl) (by simp [Value.cells, Value.oneCell']) rfl ?_
          refine hK.out _ _ (fun h => absurd rfl h) (fun hH => ?_)
          clear hK K
          try simp only [Act.put, List.setIfInBounds_toArray, List.set_cons_zero, List.set_cons_succ]
          refine doneZ (by kernel_rfl) ?_ _
          have HF := Lib.hid (HB.out.push_xs (xs' := xs0 ++ [numF x]) (grown_drew HAP.out.grown) (by have h9 := HAP.out.own; rw [List.flatMap_append, List.length_append, ← HXN.out]; exact h9))
          clear hH
          go_wp2_with fail
          exact ⟨⟨k + 1, D2, xn + 1, dc2, by rw [HN.out]; omega, by go_num, HNN.out, by rw [HT0.out, List.length_append, ← HXN.out]; rfl, by omega, by rw [HI0.out, HT0.out]; exact HF.out⟩, by simp [RowKit.intOf]; omega⟩
    · have HKN := Lib.hid (show k = n by omega)
      have HPE := Lib.hid (put_exit ws k HNS.out (.inr (by rw [HN.out]; exact HKN.out)))
      obtain ⟨B, hB⟩ : ∃ B, ws.drop (k + 1) = B := ⟨_, rfl⟩
      obtain ⟨id0, hid0⟩ : ∃ x, idF (ws.take k) = x := ⟨_, rfl⟩
      obtain ⟨xs0, hxs0⟩ : ∃ x, (ws.take k).tail.map numF = x := ⟨_, rfl⟩
      have HBB := Lib.hid hB
      have HRES := Lib.hid (show putF ws = onlyAk ⟨1, id0, xs0, 0, 0⟩ (B.map bigF) by unfold putF; rw [HPE.out.1, HPE.out.2, hB, hid0, hxs0])
      have HBL := Lib.hid (show B.length = n - (k + 1) by rw [← hB, List.length_drop, HN.out])
      have HGB := Lib.hid (fun (j : Nat) (x : Wd) (hx : ws[k + 1 + j]? = some x) => show B[j]? = some x by rw [← hB, List.getElem?_drop]; exact hx)
      have hb2 := HB.out
      rw [hid0, hxs0] at hb2
      have H2 := Lib.hid (show P2Rel k B (.slice A xn cap) id0 xs0 w (.int .i64 ((k : Int) + 1)) wr from ⟨0, k + 1, none, 0, rfl, Nat.zero_le _, by go_num, hb2⟩)
      clear hb2 hB hid0 hxs0 hlow
      go_wp2_with fail
      go_loopw [4] (fun t4 wr => P2Rel k B (.slice A xn cap) id0 xs0 w t4 wr) (fun t4 _ => n - (RowKit.intOf t4).toNat)
      case atStart => exact H2.out
      case round =>
        obtain ⟨j, i, D, dc, hi, hj, rfl, hbx⟩ := hrel
        have HD := Lib.hid hbx
        have hsz2 := hbx.size
        have hlow2 := hbx.low
        rw [HBL.out] at hj
        have HI := Lib.hid hi
        clear hbx H2
        by_cases hlt : i < n
        · obtain ⟨ad, x, e2, _, hbk, hx, hcell⟩ := HV.out _ hlow2 i hlt
          cases e2
          have HXL := Lib.hid (HW.out x (List.mem_of_getElem? hx))
          have HX := Lib.hid (HGB.out j x (by rw [← hi]; exact hx))
          have HC := Lib.hid (HD.out.at_ (o := 17) rfl)
          have HCX := Lib.hid hcell
          have HDL := Lib.hid (show ((B.take j).map bigF).length = j by rw [List.length_map, List.length_take, HBL.out]; omega)
          have HO := Lib.hid (show wr.ownsRow w.heap.size 44 1 (.slice D j dc) j (((B.take j).map bigF).flatMap u6C) by have h9 := HD.out.own.ds; rw [show (p1 (.slice A xn cap) (.slice D j dc) id0 xs0 ((B.take j).map bigF)).ln.draws = (B.take j).map bigF from rfl, HDL.out] at h9; exact h9)
          have hjn : j < 1073741824 := by omega
          clear hx hcell hlow2 hi
          go_wp2_with fail
          refine regionZ 10 (fun w' => w'.cell? ⟨w.heap.size + 1, 17, none⟩ = some (.slice D j dc) ∧ w'.cell? (ad.add i) = some (.string ⟨x.toArray⟩)) (by kernel_rfl) (⟨HC.out, HCX.out⟩) (fun hH => ?_)
          refine takeZ 0 (v := ?_) (by rfl) (by kernel_rfl) (by exact fun _ _ _ h => h) hH (.inl ⟨rfl, fun w hW => ?_⟩) ?_
          rotate_left
          · (go_simp; try with_reducible rfl)
          try simp only [Act.put, List.setIfInBounds_toArray, List.set_cons_zero, List.set_cons_succ]
          refine takeZ 1 (v := ?_) (by rfl) (by kernel_rfl) (by exact fun _ _ _ h => h) hH (.inl ⟨rfl, fun w hW => ?_⟩) ?_
          rotate_left
          · (obtain ⟨hW1, hW2⟩ := hW; go_simp; try with_reducible rfl)
          try simp only [Act.put, List.setIfInBounds_toArray, List.set_cons_zero, List.set_cons_succ]
          refine takeZ 2 (v := ?_) (by rfl) (by kernel_rfl) (by exact fun _ _ _ h => h) hH (.inl ⟨rfl, fun w hW => ?_⟩) ?_
          rotate_left
          · (go_simp; try with_reducible rfl)
          try simp only [Act.put, List.setIfInBounds_toArray, List.set_cons_zero, List.set_cons_succ]
          refine takeZ 3 (v := ?_) (by rfl) (by kernel_rfl) (by exact fun _ _ _ h => h) hH (.inl ⟨rfl, fun w hW => ?_⟩) ?_
          rotate_left
          · (go_simp; try with_reducible rfl)
          try simp only [Act.put, List.setIfInBounds_toArray, List.set_cons_zero, List.set_cons_succ]
          refine takeZ 4 (v := ?_) (by rfl) (by kernel_rfl) (by exact fun _ _ _ h => h) hH (.inl ⟨rfl, fun w hW => ?_⟩) ?_
          rotate_left
          · (go_simp; try with_reducible rfl)
          try simp only [Act.put, List.setIfInBounds_toArray, List.set_cons_zero, List.set_cons_succ]
          refine takeZ 5 (v := ?_) (by rfl) (by kernel_rfl) (by exact fun _ _ _ h => h) hH (.inl ⟨rfl, fun w hW => ?_⟩) ?_
          rotate_left
          · (obtain ⟨hW1, hW2⟩ := hW; go_simp; try with_reducible rfl)
          try simp only [Act.put, List.setIfInBounds_toArray, List.set_cons_zero, List.set_cons_succ]
          refine oneZ 6 (by kernel_rfl) (by rfl) (fun K hK => ?_)
          go_simp
          refine (big_any x HXL.out _).mono ?_
          rintro e w1 ⟨rfl, rfl⟩
          refine hK.out _ _ (fun _ => ⟨HC.out, HCX.out⟩) (fun hH => ?_)
          replace hH := hH (by decide)
          clear hK K
          try simp only [Act.put, List.setIfInBounds_toArray, List.set_cons_zero, List.set_cons_succ]
          refine oneZ 7 (by kernel_rfl) (by rfl) (fun K hK => ?_)
          try go_wp2_with fail
          refine hK.out _ _ (fun _ => ⟨by first | exact keepA (below_a1 _ _) HC.out | (simp; exact HC.out), by first | exact keepA (below_a1 _ _) HCX.out | (simp; exact HCX.out)⟩) (fun hH => ?_)
          replace hH := hH (by decide)
          clear hK K
          try simp only [Act.put, List.setIfInBounds_toArray, List.set_cons_zero, List.set_cons_succ]
          refine oneZ 8 (by kernel_rfl) (by rfl) (fun K hK => ?_)
          refine stepA wr.drew #[.int .u64 ((bigF x : Nat) : Int)] rfl (.tmp 50) (.tmp 56) _ rfl eltU w.heap.size D j dc _ (by rfl) HO.out (by rfl) rfl (by simp [Value.oneCell']) hjn (by show w.heap.size ≤ wr.heap.size; omega) ?_
          intro D2 dc2 w2 happ
          have HAP := Lib.hid happ
          clear happ
          have hgr := HD.out.grown HO.out (by decide) (grown_drew HAP.out.grown)
          have HG := Lib.hid hgr
          clear hgr
          refine hK.out _ _ (fun _ => ⟨cell_of HG.out.2.1 (o := 17) rfl, (HAP.out.below.cell (by rw [Base.add_block]; exact hbk)).trans HCX.out⟩) (fun hH => ?_)
          replace hH := hH (by decide)
          clear hK K
          try simp only [Act.put, List.setIfInBounds_toArray, List.set_cons_zero, List.set_cons_succ]
          refine takeZ 9 (v := ?_) (by rfl) (by kernel_rfl) (by exact fun _ _ _ h => h) hH (.inl ⟨rfl, fun w hW => ?_⟩) ?_
          rotate_left
          · (go_simp; try with_reducible rfl)
          try simp only [Act.put, List.setIfInBounds_toArray, List.set_cons_zero, List.set_cons_succ]
          refine oneZ 10 (by kernel_rfl) (by rfl) (fun K hK => ?_)
          refine stepStore rfl 28 (.tmp 58) (.tmp 57) rfl (w.heap.size + 1) 17 (.slice D2 (j + 1) dc2) (by rfl) (by rfl) 31 _ (lnC (p1 (.slice A xn cap) (.slice D2 (j + 1) dc2) id0 xs0 ((B.take j).map bigF ++ [bigF x]))).toArray HG.out.2.1 (by kernel_rfl) (Nat.le_of_ble_eq_true rfl) (by simp [Value.cells, Value.oneCell']) rfl ?_
          refine hK.out _ _ (fun h => absurd rfl h) (fun hH => ?_)
          clear hK K
          try simp only [Act.put, List.setIfInBounds_toArray, List.set_cons_zero, List.set_cons_succ]
          refine doneZ (by kernel_rfl) ?_ _
          have HF := Lib.hid (HD.out.push_ds (ds' := (B.take j).map bigF ++ [bigF x]) (grown_drew HAP.out.grown) (by have h9 := HAP.out.own; rw [List.flatMap_append, List.length_append, HDL.out]; exact h9))
          clear hH
          go_wp2_with fail
          exact ⟨⟨j + 1, i + 1, D2, dc2, by have := HI.out; omega, by rw [HBL.out]; have := HI.out; omega, by go_num, by rw [take_next HX.out, List.map_append]; exact HF.out⟩, by simp [RowKit.intOf]; omega⟩
        · have HJ := Lib.hid (show B.take j = B from List.take_of_length_le (by rw [HBL.out]; omega))
          have HE := HD
          clear hlow2 hi
          go_wp2_with (first
            | (refine (id ?_ : wpList _ _ _ (⟨some 59, .load _ _, _, _, _, _⟩ :: _) _ _); refine wpList_load_row rfl 31 (.tmp 3) rfl (w.heap.size + 1) (by rfl) _ _ _ _ HE.out.box Tryz.underlying31 rfl (by kernel_rfl) ?_)
            | (refine (id ?_ : wpList _ _ _ (⟨none, .store _ _ _, _, _, _, _⟩ :: _) _ _); refine wpList_store_row rfl 31 (.tmp 2) (.tmp 59) rfl w.heap.size _ (by rfl) (by rfl) 31 _ HE.out.res (by kernel_rfl) (by rfl) (all_one _ (by rfl)) ?_))
          have hF := setRow_heap _ _ _ (lnC (p1 (.slice A xn cap) (.slice D j dc) id0 xs0 ((B.take j).map bigF))).toArray _ _ HE.out.res
          refine bodyPost_ret (v := .agg (lnC (p1 (.slice A xn cap) (.slice D j dc) id0 xs0 ((B.take j).map bigF))).toArray) (results_cell_row (p := 2) (by kernel_rfl) _ _ w.heap.size _ _ _ _ (by rfl) hF Tryz.underlying31 rfl (by kernel_rfl)) rfl ?_
          exact ⟨_, rfl, by rw [HRES.out, HJ.out]; rfl, HE.out.own.row HE.out.res, below_row HE.out.low (Nat.le_refl _)⟩
end Go.Proofs.YtchgfabgighbfaaGreatDoor.PtlW
