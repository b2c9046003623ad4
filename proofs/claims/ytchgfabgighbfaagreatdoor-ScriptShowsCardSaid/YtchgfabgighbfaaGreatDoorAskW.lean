/- script's reader: what is asked (printed by mkask.py). -/
import Derived.Test.YtchgfabgighbfaaGreatDoorRdkW
import Derived.Test.YtchgfabgighbfaaGreatDoorSchW
namespace Go.Proofs.YtchgfabgighbfaaGreatDoor.AskW
set_option linter.unusedVariables false
open Go.RowKit Base SeqM ScrM ScrP ScrR ScrS TxtM GlbD FmtW RdsW RdkW EqlW LinV SchW

theorem own_setCell {W : World} {g o : Nat} {u : Value} {cs : Array Value} {T : TypeId} {fz : Nat × Nat} (hg : W.heap[g]? = some (.cells cs T fz)) {base : Nat} {e : TypeId} {size n : Nat} {v : Value} {xs : List Value} (he : e ≠ T) (h : W.ownsRow base e size v n xs) : (W.setCell ⟨g, o, none⟩ u).ownsRow base e size v n xs :=
  own_keep h fun k hk ht => Below.heap_setCell _ _ _ k (fun e2 => by simp only at e2; subst e2; exact he (ht.eq ⟨_, _, hg⟩))
theorem own_setRow {W : World} {g : Nat} {cs' cs : Array Value} {T : TypeId} {fz : Nat × Nat} (hg : W.heap[g]? = some (.cells cs T fz)) {base : Nat} {e : TypeId} {size n : Nat} {v : Value} {xs : List Value} (he : e ≠ T) (h : W.ownsRow base e size v n xs) : (W.setRow g cs').ownsRow base e size v n xs :=
  own_keep h fun k hk ht => setRow_other _ _ _ _ (fun e2 => by subst e2; exact he (ht.eq ⟨_, _, hg⟩))
theorem slice_of {W : World} {base : Nat} {e : TypeId} {size n : Nat} {v : Value} {xs : List Value} (h : W.ownsRow base e size v n xs) : ∃ A c, v = .slice A n c := by
  rcases h.2 with ⟨hv, h0⟩ | ⟨g, cap, cur, hv, _⟩
  · exact ⟨_, _, by rw [hv, h0]⟩
  · exact ⟨_, _, hv⟩
theorem RdsRSt_row {w0 W : World} {rb : Nat} {ws : List Wd} {ok : Bool} (h : RSt w0 rb ws ok W) {g : Nat} (hg : rb < g) (cs : Array Value) : RSt w0 rb ws ok (W.setRow g cs) := h.low2 hg (below_setRow (Below.refl _ _) (Nat.le_refl _) _)
theorem KR_row {rb : Nat} {w W : World} (h : KR rb w W) (hrb : rb < w.heap.size) (cs : Array Value) : KR rb w (W.setRow w.heap.size cs) := h.low hrb (below_setRow (Below.refl _ _) (Nat.le_refl _) _)
/-- a line's rows are its own -/
structure LnOw (w : World) (base : Nat) (r : LnR) : Prop where
  xs : w.ownsRow base 3 1 r.xv r.ln.ak.xs.length (r.ln.ak.xs.flatMap inC)
  ds : w.ownsRow base 44 1 r.dv r.ln.draws.length (r.ln.draws.flatMap u6C)
  ks : w.ownsRow base 46 2 r.kv r.ln.kept.length (r.ln.kept.flatMap kpC)
theorem own_more {W : World} {base base' : Nat} {e : TypeId} {size n : Nat} {v : Value} {xs : List Value} (h : W.ownsRow base e size v n xs) (hb : base' ≤ base) : W.ownsRow base' e size v n xs := by
  refine ⟨h.1, ?_⟩
  rcases h.2 with h | ⟨g, cap, cur, h1, h2, h3⟩
  · exact .inl h
  · exact .inr ⟨g, cap, cur, h1, Nat.le_trans hb h2, h3⟩
theorem LnOw.toIn {w : World} {base : Nat} {r : LnR} (h : LnOw w base r) : LnIn w base w.heap.size r := ⟨Seq.of_own h.xs, Seq.of_own h.ds, Seq.of_own h.ks⟩
theorem LnOw.more {w : World} {base base' : Nat} {r : LnR} (h : LnOw w base r) (hb : base' ≤ base) : LnOw w base' r := ⟨own_more h.xs hb, own_more h.ds hb, own_more h.ks hb⟩
theorem LnOw.keep {w w' : World} {base : Nat} {r : LnR} (h : LnOw w base r) (hk : ∀ k, k < w.heap.size → ∀ e, e ≠ 31 → Typ w k e → w'.heap[k]? = w.heap[k]?) : LnOw w' base r :=
  ⟨own_keep h.xs fun k h1 h2 => hk k h1 _ (by decide) h2, own_keep h.ds fun k h1 h2 => hk k h1 _ (by decide) h2, own_keep h.ks fun k h1 h2 => hk k h1 _ (by decide) h2⟩
theorem LnOw.below {w w' : World} {base : Nat} {r : LnR} (h : LnOw w base r) (hb : Below w.heap.size w w') : LnOw w' base r := h.keep fun k hk _ _ _ => hb.block k hk
theorem LnOw.row {w : World} {base g : Nat} {r : LnR} (h : LnOw w base r) {cs cs' : Array Value} {fz : Nat × Nat} (hg : w.heap[g]? = some (.cells cs 31 fz)) : LnOw (w.setRow g cs') base r :=
  h.keep fun k hk e he ht => setRow_other _ _ _ _ (fun e2 => by subst e2; exact he (ht.eq ⟨_, _, hg⟩))
theorem LnOw.grown {w w' : World} {base base' : Nat} {r : LnR} (h : LnOw w base r) {size n : Nat} {v : Value} {xs : List Value} (ho : w.ownsRow base' 31 size v n xs) (hg : w.grownBy w' v.ownBlock) : LnOw w' base r :=
  h.keep fun k hk e he ht => grown_keep ho hg he hk ht
theorem LnOw.nil_ {w : World} {base : Nat} {l : Ln} (h : l.ak.xs = [] ∧ l.draws = [] ∧ l.kept = []) : LnOw w base ⟨.slice none 0 0, .slice none 0 0, .slice none 0 0, l⟩ :=
  ⟨by dsimp only; rw [h.1]; exact World.ownsRow_nil _ _ _ _, by dsimp only; rw [h.2.1]; exact World.ownsRow_nil _ _ _ _, by dsimp only; rw [h.2.2]; exact World.ownsRow_nil _ _ _ _⟩
def AskPost (w0 w : World) (rb : Nat) (all : List Wd) (ok : Bool) (e : Ending) (w' : World) : Prop := ∃ (r : LnR) (ws' : List Wd) (ok' : Bool), e = .returned (.agg (lnC r).toArray) ∧ RSt w0 rb ws' ok' w' ∧ KR rb w w' ∧ LnOw w' w.heap.size r ∧ LineS all ok r.ln ws' ok'
theorem tail_le {ws : List Wd} {n : Nat} (h : ws.length ≤ n) : ws.tail.length ≤ n := by simp; omega
theorem mny_le {α : Type} {e : α → Wd} {val : α → Prop} {en : Wd} {ws ws' : List Wd} {ok ok' : Bool} {xs : List α} (h : Mny e val en ws ok xs ws' ok') (h1 : ok' = true) : xs.length ≤ ws.length := by
  have := (h.sound h1).2.1; rw [this]; simp
set_option maxHeartbeats 8000000 in
set_option maxRecDepth 100000 in
theorem ask_1 {w0 w : World} (hG : G w0) {rb : Nat} {ws : List Wd} {ok : Bool} (hl : ∀ x ∈ ws, x.length ≤ 1000000) (hwl : ws.length ≤ 1000000) (h : RSt w0 rb ws ok w) :
    Calls Tryz.prog 55 #[.pointer (some ⟨rb, 0, none⟩), .int .i64 1] w (AskPost w0 w rb (wPut :: ws) ok) := by
  have hmf : ∀ (fn : Fn) (first cap : Array Value) (w : World), (Instr.makeFunc fn first cap).run Tryz.prog w = .ok (.func fn first cap) w := fun _ _ _ _ => rfl
  have HG := Lib.hid hG
  have hlt := h.rd.lt
  have H0 := Lib.hid (fun (W : World) (hb : Below w.heap.size w W) => h.free hb)
  have HL := Lib.hid hl
  clear h hG hl
  go_enter Tryz.func55, Tryz.ntmps55
  go_wp2_with (first
    | (refine (id ?_ : wpList _ _ _ (⟨none, .store _ (.tmp 5) (.tmp 8), _, _, _, _⟩ :: _) _ _)
       refine wpList_store_row rfl 31 (.tmp 5) (.tmp 8) rfl (w.heap.size + 1) _ (by rfl) (by rfl) 31 _ (alloc2_new w _ _) (by kernel_rfl) (by rfl) (all_one _ (by rfl)) ?_
       generalize hW2 : World.setRow _ _ _ = W2
       have hLB : W2.heap[w.heap.size + 1]? = some (.cells #[.int .i64 2, .int .i64 0, .int .i64 0, .int .i64 0, .int .i64 0, .int .i64 0, .int .i64 0, .int .i64 0, .int .i64 0, .int .i64 0, .int .i64 0, .int .i64 0, .int .i64 1, .int .i64 0, .slice none 0 0, .int .i64 0, .int .i64 0, .slice none 0 0, .int .i64 0, .slice none 0 0] 31 (0, 0)) := by rw [← hW2]; exact setRow_heap _ _ _ _ _ _ (alloc2_new w _ _)
       have hRC : W2.heap[w.heap.size]? = some (.cells #[.int .i64 0, .int .i64 0, .int .i64 0, .int .i64 0, .int .i64 0, .int .i64 0, .int .i64 0, .int .i64 0, .int .i64 0, .int .i64 0, .int .i64 0, .int .i64 0, .int .i64 0, .int .i64 0, .slice none 0 0, .int .i64 0, .int .i64 0, .slice none 0 0, .int .i64 0, .slice none 0 0] 31 (0, 0)) := by rw [← hW2]; exact (setRow_other _ _ _ _ (by simp)).trans ((Below.heap_alloc _ _ _ (by simp)).trans (heap_alloc_new w _))
       have hb : Below w.heap.size w W2 := by rw [← hW2]; exact below_setRow (below_a2 w _ _) (Nat.le_succ _) _
       have HLB := Lib.hid hLB
       have HRC := Lib.hid hRC
       have H2 := Lib.hid (H0.out _ hb)
       have HK2 := Lib.hid (KR.of_below (rb := rb) hb (Nat.le_of_lt hlt))
       have hz2 := hb.size
       clear hb hLB hRC hW2 H0)
    | (refine (id ?_ : wpList _ _ _ (⟨some 64, .load _ _, _, _, _, _⟩ :: _) _ _)
       refine wpList_load_row rfl 31 (.tmp 5) rfl (w.heap.size + 1) (by rfl) _ _ _ _ HLB.out Tryz.underlying31 rfl (by kernel_rfl) ?_)
    | (refine (id ?_ : wpList _ _ _ (⟨none, .store _ (.tmp 4) _, _, _, _, _⟩ :: _) _ _)
       refine wpList_store_row rfl 31 (.tmp 4) (.tmp 64) rfl w.heap.size _ (by rfl) (by rfl) 31 _ HRC.out (by kernel_rfl) (by rfl) (all_one _ (by rfl)) ?_))
  refine (int_any HG.out HL.out H2.out).mono ?_
  rintro e V3 ⟨n3, ok3, rfl, h3, hk3, hr3⟩
  have HR3 := Lib.hid hr3
  clear hr3
  have hLB0 := HLB.out
  have hRC0 := HRC.out
  clear HLB HRC
  have HLB := Lib.hid (hk3.cells (k := w.heap.size + 1) (by omega) hLB0)
  have HRC := Lib.hid (hk3.cells (k := w.heap.size) (by omega) hRC0)
  clear hLB0 hRC0
  have J3 := Lib.hid h3
  have JK3 := Lib.hid (HK2.out.trans hk3)
  have hz3 := (HK2.out.trans hk3).size
  clear h3 hk3
  have HL3 := Lib.hid (tail_len HL.out)
  have hLB0 := HLB.out
  have hRC0 := HRC.out
  clear HLB HRC
  have HLB := Lib.hid (show (V3.setCell ⟨w.heap.size + 1, 13, none⟩ (.int .i64 n3)).heap[w.heap.size + 1]? = some (.cells #[.int .i64 2, .int .i64 0, .int .i64 0, .int .i64 0, .int .i64 0, .int .i64 0, .int .i64 0, .int .i64 0, .int .i64 0, .int .i64 0, .int .i64 0, .int .i64 0, .int .i64 1, .int .i64 n3, .slice none 0 0, .int .i64 0, .int .i64 0, .slice none 0 0, .int .i64 0, .slice none 0 0] 31 (0, 0)) by rw [Go.heap_setCell_same _ _ _ _ _ _ hLB0]; rfl)
  have HRC := Lib.hid (show (V3.setCell ⟨w.heap.size + 1, 13, none⟩ (.int .i64 n3)).heap[w.heap.size]? = some (.cells #[.int .i64 0, .int .i64 0, .int .i64 0, .int .i64 0, .int .i64 0, .int .i64 0, .int .i64 0, .int .i64 0, .int .i64 0, .int .i64 0, .int .i64 0, .int .i64 0, .int .i64 0, .int .i64 0, .slice none 0 0, .int .i64 0, .int .i64 0, .slice none 0 0, .int .i64 0, .slice none 0 0] 31 (0, 0)) from (Below.heap_setCell _ _ _ _ (by simp)).trans hRC0)
  have HS1 := Lib.hid (J3.out.other (g := w.heap.size + 1) (by omega) 13 (.int .i64 n3))
  have HKS1 := Lib.hid (JK3.out.other hlt (g := w.heap.size + 1) (by omega) 13 (.int .i64 n3))
  have lbz : w.heap.size + 1 < V3.heap.size := (Array.getElem?_eq_some_iff.1 hLB0).1
  have lc := cell_heap hLB0 (o := 13) rfl
  have lf := free_heap hLB0 13
  clear hLB0 hRC0
  go_wp2_with (first
      | (refine (id ?_ : wpList _ _ _ (⟨some 64, .load _ _, _, _, _, _⟩ :: _) _ _)
         refine wpList_load_row rfl 31 (.tmp 5) rfl (w.heap.size + 1) (by rfl) _ _ _ _ HLB.out Tryz.underlying31 rfl (by kernel_rfl) ?_)
      | (refine (id ?_ : wpList _ _ _ (⟨none, .store _ (.tmp 4) _, _, _, _, _⟩ :: _) _ _)
         refine wpList_store_row rfl 31 (.tmp 4) (.tmp 64) rfl w.heap.size _ (by rfl) (by rfl) 31 _ HRC.out (by kernel_rfl) (by rfl) (all_one _ (by rfl)) ?_))
  obtain ⟨Y1, hY1⟩ : ∃ Y, (V3.setCell ⟨w.heap.size + 1, 13, none⟩ (.int .i64 n3)) = Y := ⟨_, rfl⟩
  rw [hY1] at HLB HRC HS1 HKS1  ⊢
  clear hY1 lbz lc lf
  have hzy1 : w.heap.size ≤ Y1.heap.size := HKS1.out.size
  refine (manyI_any HG.out [47] HL3.out (tail_le hwl) HS1.out).mono ?_
  rintro e V4 ⟨xs4, ws4, ok4, v4, rfl, ho4, h4, hk4, hm4, hs4, hl4, hle4⟩
  obtain ⟨A4, c4, rfl⟩ := slice_of ho4
  obtain ⟨m4, hm4e⟩ : ∃ m, xs4.length = m := ⟨_, rfl⟩
  rw [hm4e] at ho4 ⊢
  have HE4 := Lib.hid hm4e
  have HO4 := Lib.hid ho4
  have HM4 := Lib.hid hm4
  have HST4 := Lib.hid hs4
  have HL4 := Lib.hid hl4
  have HWL4 := Lib.hid (show ws4.tail.length ≤ 1000000 from tail_le (Nat.le_trans hle4 (tail_le hwl)))
  clear ho4 hm4 hs4 hl4 hle4 hm4e
  have hLB0 := HLB.out
  have hRC0 := HRC.out
  clear HLB HRC
  have HLB := Lib.hid (hk4.cells (k := w.heap.size + 1) (by omega) hLB0)
  have HRC := Lib.hid (hk4.cells (k := w.heap.size) (by omega) hRC0)
  clear hLB0 hRC0
  have J4 := Lib.hid h4
  have JK4 := Lib.hid (HKS1.out.trans hk4)
  have hz4 := (HKS1.out.trans hk4).size
  clear h4 hk4
  have hLB0 := HLB.out
  have hRC0 := HRC.out
  clear HLB HRC
  have HLB := Lib.hid (show (V4.setCell ⟨w.heap.size + 1, 14, none⟩ (.slice A4 m4 c4)).heap[w.heap.size + 1]? = some (.cells #[.int .i64 2, .int .i64 0, .int .i64 0, .int .i64 0, .int .i64 0, .int .i64 0, .int .i64 0, .int .i64 0, .int .i64 0, .int .i64 0, .int .i64 0, .int .i64 0, .int .i64 1, .int .i64 n3, .slice A4 m4 c4, .int .i64 0, .int .i64 0, .slice none 0 0, .int .i64 0, .slice none 0 0] 31 (0, 0)) by rw [Go.heap_setCell_same _ _ _ _ _ _ hLB0]; rfl)
  have HRC := Lib.hid (show (V4.setCell ⟨w.heap.size + 1, 14, none⟩ (.slice A4 m4 c4)).heap[w.heap.size]? = some (.cells #[.int .i64 0, .int .i64 0, .int .i64 0, .int .i64 0, .int .i64 0, .int .i64 0, .int .i64 0, .int .i64 0, .int .i64 0, .int .i64 0, .int .i64 0, .int .i64 0, .int .i64 0, .int .i64 0, .slice none 0 0, .int .i64 0, .int .i64 0, .slice none 0 0, .int .i64 0, .slice none 0 0] 31 (0, 0)) from (Below.heap_setCell _ _ _ _ (by simp)).trans hRC0)
  have HS2 := Lib.hid (J4.out.other (g := w.heap.size + 1) (by omega) 14 (.slice A4 m4 c4))
  have HKS2 := Lib.hid (JK4.out.other hlt (g := w.heap.size + 1) (by omega) 14 (.slice A4 m4 c4))
  have HO4s2 := Lib.hid (own_setCell (o := 14) (u := .slice A4 m4 c4) hLB0 (by decide) HO4.out)
  have lbz : w.heap.size + 1 < V4.heap.size := (Array.getElem?_eq_some_iff.1 hLB0).1
  have lc := cell_heap hLB0 (o := 14) rfl
  have lf := free_heap hLB0 14
  clear hLB0 hRC0
  go_wp2_with (first
      | (refine (id ?_ : wpList _ _ _ (⟨some 64, .load _ _, _, _, _, _⟩ :: _) _ _)
         refine wpList_load_row rfl 31 (.tmp 5) rfl (w.heap.size + 1) (by rfl) _ _ _ _ HLB.out Tryz.underlying31 rfl (by kernel_rfl) ?_)
      | (refine (id ?_ : wpList _ _ _ (⟨none, .store _ (.tmp 4) _, _, _, _, _⟩ :: _) _ _)
         refine wpList_store_row rfl 31 (.tmp 4) (.tmp 64) rfl w.heap.size _ (by rfl) (by rfl) 31 _ HRC.out (by kernel_rfl) (by rfl) (all_one _ (by rfl)) ?_))
  obtain ⟨Y2, hY2⟩ : ∃ Y, (V4.setCell ⟨w.heap.size + 1, 14, none⟩ (.slice A4 m4 c4)) = Y := ⟨_, rfl⟩
  rw [hY2] at HLB HRC HS2 HKS2 HO4s2 ⊢
  clear hY2 lbz lc lf
  have hzy2 : w.heap.size ≤ Y2.heap.size := HKS2.out.size
  refine (next_any HS2.out).mono ?_
  rintro e V5 ⟨rfl, h5, hk5⟩
  have hLB0 := HLB.out
  have hRC0 := HRC.out
  clear HLB HRC
  have HLB := Lib.hid (hk5.cells (k := w.heap.size + 1) (by omega) hLB0)
  have HRC := Lib.hid (hk5.cells (k := w.heap.size) (by omega) hRC0)
  clear hLB0 hRC0
  have HO4s2k := Lib.hid (own_kr hk5 HS2.out.rd (by decide) HO4s2.out)
  have J5 := Lib.hid h5
  have JK5 := Lib.hid (HKS2.out.trans hk5)
  have hz5 := (HKS2.out.trans hk5).size
  clear h5 hk5
  obtain ⟨nx, hnx⟩ : ∃ nx, nextW ws4 = nx := ⟨_, rfl⟩
  obtain ⟨ob, hob⟩ : ∃ ob, nextOk ws4 ok4 = ob := ⟨_, rfl⟩
  rw [hnx] at ⊢
  rw [hob] at J5
  have HNX := Lib.hid (And.intro hnx hob)
  clear hnx hob
  obtain ⟨WA, wn, wc, d0, _, d1, df, dz⟩ := J5.out.cells
  have HL5 := Lib.hid (tail_len HL4.out)
  have HW5 := Lib.hid HWL4.out
  by_cases hsl : nx = [47]
  · subst hsl
    have hLB0 := HLB.out
    have hRC0 := HRC.out
    clear HLB HRC
    have HLB := Lib.hid (show (V5.setCell ⟨rb, 1, none⟩ (.bool ob)).heap[w.heap.size + 1]? = some (.cells #[.int .i64 2, .int .i64 0, .int .i64 0, .int .i64 0, .int .i64 0, .int .i64 0, .int .i64 0, .int .i64 0, .int .i64 0, .int .i64 0, .int .i64 0, .int .i64 0, .int .i64 1, .int .i64 n3, .slice A4 m4 c4, .int .i64 0, .int .i64 0, .slice none 0 0, .int .i64 0, .slice none 0 0] 31 (0, 0)) from (Below.heap_setCell _ _ _ _ (by simp only; omega)).trans hLB0)
    have HRC := Lib.hid (show (V5.setCell ⟨rb, 1, none⟩ (.bool ob)).heap[w.heap.size]? = some (.cells #[.int .i64 0, .int .i64 0, .int .i64 0, .int .i64 0, .int .i64 0, .int .i64 0, .int .i64 0, .int .i64 0, .int .i64 0, .int .i64 0, .int .i64 0, .int .i64 0, .int .i64 0, .int .i64 0, .slice none 0 0, .int .i64 0, .int .i64 0, .slice none 0 0, .int .i64 0, .slice none 0 0] 31 (0, 0)) from (Below.heap_setCell _ _ _ _ (by simp only; omega)).trans hRC0)
    have P5 := Lib.hid (J5.out.put ob)
    have PK5 := Lib.hid (JK5.out.set 1 (.bool ob))
    obtain ⟨_, hrb5, _⟩ := J5.out.rd
    have HO4s2kp := Lib.hid (own_setCell (o := 1) (u := .bool ob) hrb5 (by decide) HO4s2k.out)
    clear hLB0 hRC0 hrb5
    go_wp2_with (first
      | (refine (id ?_ : wpList _ _ _ (⟨some 64, .load _ _, _, _, _, _⟩ :: _) _ _)
         refine wpList_load_row rfl 31 (.tmp 5) rfl (w.heap.size + 1) (by rfl) _ _ _ _ HLB.out Tryz.underlying31 rfl (by kernel_rfl) ?_)
      | (refine (id ?_ : wpList _ _ _ (⟨none, .store _ (.tmp 4) _, _, _, _, _⟩ :: _) _ _)
         refine wpList_store_row rfl 31 (.tmp 4) (.tmp 64) rfl w.heap.size _ (by rfl) (by rfl) 31 _ HRC.out (by kernel_rfl) (by rfl) (all_one _ (by rfl)) ?_))
    obtain ⟨Y9, hY9⟩ : ∃ Y, (V5.setCell ⟨rb, 1, none⟩ (.bool ob)) = Y := ⟨_, rfl⟩
    rw [hY9] at HLB HRC P5 PK5 HO4s2kp ⊢
    clear hY9 d0 d1 df dz
    have hzy9 : w.heap.size ≤ Y9.heap.size := PK5.out.size
    have hw6 : ws4.tail.length ≤ 1000000 := HW5.out
    refine (manyD_any HG.out [] HL5.out hw6 P5.out).mono ?_
    rintro e V6 ⟨xs6, ws6, ok6, v6, rfl, ho6, h6, hk6, hm6, hs6, hl6, hle6⟩
    obtain ⟨A6, c6, rfl⟩ := slice_of ho6
    obtain ⟨m6, hm6e⟩ : ∃ m, xs6.length = m := ⟨_, rfl⟩
    rw [hm6e] at ho6 ⊢
    have HE6 := Lib.hid hm6e
    have HO6 := Lib.hid ho6
    have HM6 := Lib.hid hm6
    have HST6 := Lib.hid hs6
    have HL6 := Lib.hid hl6
    have HWL6 := Lib.hid (show ws6.tail.length ≤ 1000000 from tail_le (Nat.le_trans hle6 hw6))
    clear ho6 hm6 hs6 hl6 hle6 hm6e
    have hLB0 := HLB.out
    have hRC0 := HRC.out
    clear HLB HRC
    have HLB := Lib.hid (hk6.cells (k := w.heap.size + 1) (by omega) hLB0)
    have HRC := Lib.hid (hk6.cells (k := w.heap.size) (by omega) hRC0)
    clear hLB0 hRC0
    have HO4s2kpk := Lib.hid (own_kr hk6 P5.out.rd (by decide) HO4s2kp.out)
    have J6 := Lib.hid h6
    have JK6 := Lib.hid (PK5.out.trans hk6)
    have hz6 := (PK5.out.trans hk6).size
    clear h6 hk6
    have hLB0 := HLB.out
    have hRC0 := HRC.out
    clear HLB HRC
    have HLB := Lib.hid (show (V6.setCell ⟨w.heap.size + 1, 17, none⟩ (.slice A6 m6 c6)).heap[w.heap.size + 1]? = some (.cells #[.int .i64 2, .int .i64 0, .int .i64 0, .int .i64 0, .int .i64 0, .int .i64 0, .int .i64 0, .int .i64 0, .int .i64 0, .int .i64 0, .int .i64 0, .int .i64 0, .int .i64 1, .int .i64 n3, .slice A4 m4 c4, .int .i64 0, .int .i64 0, .slice A6 m6 c6, .int .i64 0, .slice none 0 0] 31 (0, 0)) by rw [Go.heap_setCell_same _ _ _ _ _ _ hLB0]; rfl)
    have HRC := Lib.hid (show (V6.setCell ⟨w.heap.size + 1, 17, none⟩ (.slice A6 m6 c6)).heap[w.heap.size]? = some (.cells #[.int .i64 0, .int .i64 0, .int .i64 0, .int .i64 0, .int .i64 0, .int .i64 0, .int .i64 0, .int .i64 0, .int .i64 0, .int .i64 0, .int .i64 0, .int .i64 0, .int .i64 0, .int .i64 0, .slice none 0 0, .int .i64 0, .int .i64 0, .slice none 0 0, .int .i64 0, .slice none 0 0] 31 (0, 0)) from (Below.heap_setCell _ _ _ _ (by simp)).trans hRC0)
    have HS3 := Lib.hid (J6.out.other (g := w.heap.size + 1) (by omega) 17 (.slice A6 m6 c6))
    have HKS3 := Lib.hid (JK6.out.other hlt (g := w.heap.size + 1) (by omega) 17 (.slice A6 m6 c6))
    have HO4s2kpks3 := Lib.hid (own_setCell (o := 17) (u := .slice A6 m6 c6) hLB0 (by decide) HO4s2kpk.out)
    have HO6s3 := Lib.hid (own_setCell (o := 17) (u := .slice A6 m6 c6) hLB0 (by decide) HO6.out)
    have lbz : w.heap.size + 1 < V6.heap.size := (Array.getElem?_eq_some_iff.1 hLB0).1
    have lc := cell_heap hLB0 (o := 17) rfl
    have lf := free_heap hLB0 17
    clear hLB0 hRC0
    go_wp2_with (first
      | (refine (id ?_ : wpList _ _ _ (⟨some 64, .load _ _, _, _, _, _⟩ :: _) _ _)
         refine wpList_load_row rfl 31 (.tmp 5) rfl (w.heap.size + 1) (by rfl) _ _ _ _ HLB.out Tryz.underlying31 rfl (by kernel_rfl) ?_)
      | (refine (id ?_ : wpList _ _ _ (⟨none, .store _ (.tmp 4) _, _, _, _, _⟩ :: _) _ _)
         refine wpList_store_row rfl 31 (.tmp 4) (.tmp 64) rfl w.heap.size _ (by rfl) (by rfl) 31 _ HRC.out (by kernel_rfl) (by rfl) (all_one _ (by rfl)) ?_))
    have hF := setRow_heap _ _ _ #[.int .i64 2, .int .i64 0, .int .i64 0, .int .i64 0, .int .i64 0, .int .i64 0, .int .i64 0, .int .i64 0, .int .i64 0, .int .i64 0, .int .i64 0, .int .i64 0, .int .i64 1, .int .i64 n3, .slice A4 m4 c4, .int .i64 0, .int .i64 0, .slice A6 m6 c6, .int .i64 0, .slice none 0 0] _ _ HRC.out
    refine bodyPost_ret (v := .agg #[.int .i64 2, .int .i64 0, .int .i64 0, .int .i64 0, .int .i64 0, .int .i64 0, .int .i64 0, .int .i64 0, .int .i64 0, .int .i64 0, .int .i64 0, .int .i64 0, .int .i64 1, .int .i64 n3, .slice A4 m4 c4, .int .i64 0, .int .i64 0, .slice A6 m6 c6, .int .i64 0, .slice none 0 0]) (results_cell_row (p := 4) (by kernel_rfl) _ _ w.heap.size _ _ _ _ (by rfl) hF Tryz.underlying31 rfl (by kernel_rfl)) rfl ?_
    exact ⟨⟨.slice A4 m4 c4, .slice A6 m6 c6, .slice none 0 0, onlyAk ⟨1, n3, xs4, 0, 0⟩ xs6⟩, _, _, rfl, RdsRSt_row HS3.out (by omega) _, KR_row HKS3.out hlt _, ⟨(by have h9 := own_setRow (cs' := #[.int .i64 2, .int .i64 0, .int .i64 0, .int .i64 0, .int .i64 0, .int .i64 0, .int .i64 0, .int .i64 0, .int .i64 0, .int .i64 0, .int .i64 0, .int .i64 0, .int .i64 1, .int .i64 n3, .slice A4 m4 c4, .int .i64 0, .int .i64 0, .slice A6 m6 c6, .int .i64 0, .slice none 0 0]) HRC.out (by decide) HO4s2kpks3.out; rw [← HE4.out] at h9 ⊢; exact own_more h9 (by first | omega | exact Nat.le_refl _)), (by have h9 := own_setRow (cs' := #[.int .i64 2, .int .i64 0, .int .i64 0, .int .i64 0, .int .i64 0, .int .i64 0, .int .i64 0, .int .i64 0, .int .i64 0, .int .i64 0, .int .i64 0, .int .i64 0, .int .i64 1, .int .i64 n3, .slice A4 m4 c4, .int .i64 0, .int .i64 0, .slice A6 m6 c6, .int .i64 0, .slice none 0 0]) HRC.out (by decide) HO6s3.out; rw [← HE6.out] at h9 ⊢; exact own_more h9 (by first | omega | exact Nat.le_refl _)), World.ownsRow_nil _ _ _ _⟩, lineS_put HR3.out HM4.out HST4.out (show ob = (decide (nextW ws4 = [47]) && nextOk ws4 ok4) by rw [HNX.out.1, HNX.out.2]; simp) HM6.out HST6.out⟩
  · have hq1 : (nx == [47]) = false := beq_eq_false_iff_ne.2 hsl
    have hq2 : ((⟨nx.toArray⟩ : ByteArray) == ⟨#[47]⟩) = false := by rw [show (⟨#[47]⟩ : ByteArray) = ⟨([47] : List UInt8).toArray⟩ from rfl, beq_bytes]; exact decide_eq_false hsl
    have HSL := Lib.hid hsl
    clear hsl
    have hLB0 := HLB.out
    have hRC0 := HRC.out
    clear HLB HRC
    have HLB := Lib.hid (show (V5.setCell ⟨rb, 1, none⟩ (.bool false)).heap[w.heap.size + 1]? = some (.cells #[.int .i64 2, .int .i64 0, .int .i64 0, .int .i64 0, .int .i64 0, .int .i64 0, .int .i64 0, .int .i64 0, .int .i64 0, .int .i64 0, .int .i64 0, .int .i64 0, .int .i64 1, .int .i64 n3, .slice A4 m4 c4, .int .i64 0, .int .i64 0, .slice none 0 0, .int .i64 0, .slice none 0 0] 31 (0, 0)) from (Below.heap_setCell _ _ _ _ (by simp only; omega)).trans hLB0)
    have HRC := Lib.hid (show (V5.setCell ⟨rb, 1, none⟩ (.bool false)).heap[w.heap.size]? = some (.cells #[.int .i64 0, .int .i64 0, .int .i64 0, .int .i64 0, .int .i64 0, .int .i64 0, .int .i64 0, .int .i64 0, .int .i64 0, .int .i64 0, .int .i64 0, .int .i64 0, .int .i64 0, .int .i64 0, .slice none 0 0, .int .i64 0, .int .i64 0, .slice none 0 0, .int .i64 0, .slice none 0 0] 31 (0, 0)) from (Below.heap_setCell _ _ _ _ (by simp only; omega)).trans hRC0)
    have P5 := Lib.hid (J5.out.put false)
    have PK5 := Lib.hid (JK5.out.set 1 (.bool false))
    obtain ⟨_, hrb5, _⟩ := J5.out.rd
    have HO4s2kp := Lib.hid (own_setCell (o := 1) (u := .bool false) hrb5 (by decide) HO4s2k.out)
    clear hLB0 hRC0 hrb5
    go_wp2_with (first
      | (refine (id ?_ : wpList _ _ _ (⟨some 64, .load _ _, _, _, _, _⟩ :: _) _ _)
         refine wpList_load_row rfl 31 (.tmp 5) rfl (w.heap.size + 1) (by rfl) _ _ _ _ HLB.out Tryz.underlying31 rfl (by kernel_rfl) ?_)
      | (refine (id ?_ : wpList _ _ _ (⟨none, .store _ (.tmp 4) _, _, _, _, _⟩ :: _) _ _)
         refine wpList_store_row rfl 31 (.tmp 4) (.tmp 64) rfl w.heap.size _ (by rfl) (by rfl) 31 _ HRC.out (by kernel_rfl) (by rfl) (all_one _ (by rfl)) ?_))
    obtain ⟨Y9, hY9⟩ : ∃ Y, (V5.setCell ⟨rb, 1, none⟩ (.bool false)) = Y := ⟨_, rfl⟩
    rw [hY9] at HLB HRC P5 PK5 HO4s2kp ⊢
    clear hY9 d0 d1 df dz
    have hzy9 : w.heap.size ≤ Y9.heap.size := PK5.out.size
    have hw6 : ws4.tail.length ≤ 1000000 := HW5.out
    refine (manyD_any HG.out [] HL5.out hw6 P5.out).mono ?_
    rintro e V6 ⟨xs6, ws6, ok6, v6, rfl, ho6, h6, hk6, hm6, hs6, hl6, hle6⟩
    obtain ⟨A6, c6, rfl⟩ := slice_of ho6
    obtain ⟨m6, hm6e⟩ : ∃ m, xs6.length = m := ⟨_, rfl⟩
    rw [hm6e] at ho6 ⊢
    have HE6 := Lib.hid hm6e
    have HO6 := Lib.hid ho6
    have HM6 := Lib.hid hm6
    have HST6 := Lib.hid hs6
    have HL6 := Lib.hid hl6
    have HWL6 := Lib.hid (show ws6.tail.length ≤ 1000000 from tail_le (Nat.le_trans hle6 hw6))
    clear ho6 hm6 hs6 hl6 hle6 hm6e
    have hLB0 := HLB.out
    have hRC0 := HRC.out
    clear HLB HRC
    have HLB := Lib.hid (hk6.cells (k := w.heap.size + 1) (by omega) hLB0)
    have HRC := Lib.hid (hk6.cells (k := w.heap.size) (by omega) hRC0)
    clear hLB0 hRC0
    have HO4s2kpk := Lib.hid (own_kr hk6 P5.out.rd (by decide) HO4s2kp.out)
    have J6 := Lib.hid h6
    have JK6 := Lib.hid (PK5.out.trans hk6)
    have hz6 := (PK5.out.trans hk6).size
    clear h6 hk6
    have hLB0 := HLB.out
    have hRC0 := HRC.out
    clear HLB HRC
    have HLB := Lib.hid (show (V6.setCell ⟨w.heap.size + 1, 17, none⟩ (.slice A6 m6 c6)).heap[w.heap.size + 1]? = some (.cells #[.int .i64 2, .int .i64 0, .int .i64 0, .int .i64 0, .int .i64 0, .int .i64 0, .int .i64 0, .int .i64 0, .int .i64 0, .int .i64 0, .int .i64 0, .int .i64 0, .int .i64 1, .int .i64 n3, .slice A4 m4 c4, .int .i64 0, .int .i64 0, .slice A6 m6 c6, .int .i64 0, .slice none 0 0] 31 (0, 0)) by rw [Go.heap_setCell_same _ _ _ _ _ _ hLB0]; rfl)
    have HRC := Lib.hid (show (V6.setCell ⟨w.heap.size + 1, 17, none⟩ (.slice A6 m6 c6)).heap[w.heap.size]? = some (.cells #[.int .i64 0, .int .i64 0, .int .i64 0, .int .i64 0, .int .i64 0, .int .i64 0, .int .i64 0, .int .i64 0, .int .i64 0, .int .i64 0, .int .i64 0, .int .i64 0, .int .i64 0, .int .i64 0, .slice none 0 0, .int .i64 0, .int .i64 0, .slice none 0 0, .int .i64 0, .slice none 0 0] 31 (0, 0)) from (Below.heap_setCell _ _ _ _ (by simp)).trans hRC0)
    have HS3 := Lib.hid (J6.out.other (g := w.heap.size + 1) (by omega) 17 (.slice A6 m6 c6))
    have HKS3 := Lib.hid (JK6.out.other hlt (g := w.heap.size + 1) (by omega) 17 (.slice A6 m6 c6))
    have HO4s2kpks3 := Lib.hid (own_setCell (o := 17) (u := .slice A6 m6 c6) hLB0 (by decide) HO4s2kpk.out)
    have HO6s3 := Lib.hid (own_setCell (o := 17) (u := .slice A6 m6 c6) hLB0 (by decide) HO6.out)
    have lbz : w.heap.size + 1 < V6.heap.size := (Array.getElem?_eq_some_iff.1 hLB0).1
    have lc := cell_heap hLB0 (o := 17) rfl
    have lf := free_heap hLB0 17
    clear hLB0 hRC0
    go_wp2_with (first
      | (refine (id ?_ : wpList _ _ _ (⟨some 64, .load _ _, _, _, _, _⟩ :: _) _ _)
         refine wpList_load_row rfl 31 (.tmp 5) rfl (w.heap.size + 1) (by rfl) _ _ _ _ HLB.out Tryz.underlying31 rfl (by kernel_rfl) ?_)
      | (refine (id ?_ : wpList _ _ _ (⟨none, .store _ (.tmp 4) _, _, _, _, _⟩ :: _) _ _)
         refine wpList_store_row rfl 31 (.tmp 4) (.tmp 64) rfl w.heap.size _ (by rfl) (by rfl) 31 _ HRC.out (by kernel_rfl) (by rfl) (all_one _ (by rfl)) ?_))
    have hF := setRow_heap _ _ _ #[.int .i64 2, .int .i64 0, .int .i64 0, .int .i64 0, .int .i64 0, .int .i64 0, .int .i64 0, .int .i64 0, .int .i64 0, .int .i64 0, .int .i64 0, .int .i64 0, .int .i64 1, .int .i64 n3, .slice A4 m4 c4, .int .i64 0, .int .i64 0, .slice A6 m6 c6, .int .i64 0, .slice none 0 0] _ _ HRC.out
    refine bodyPost_ret (v := .agg #[.int .i64 2, .int .i64 0, .int .i64 0, .int .i64 0, .int .i64 0, .int .i64 0, .int .i64 0, .int .i64 0, .int .i64 0, .int .i64 0, .int .i64 0, .int .i64 0, .int .i64 1, .int .i64 n3, .slice A4 m4 c4, .int .i64 0, .int .i64 0, .slice A6 m6 c6, .int .i64 0, .slice none 0 0]) (results_cell_row (p := 4) (by kernel_rfl) _ _ w.heap.size _ _ _ _ (by rfl) hF Tryz.underlying31 rfl (by kernel_rfl)) rfl ?_
    exact ⟨⟨.slice A4 m4 c4, .slice A6 m6 c6, .slice none 0 0, onlyAk ⟨1, n3, xs4, 0, 0⟩ xs6⟩, _, _, rfl, RdsRSt_row HS3.out (by omega) _, KR_row HKS3.out hlt _, ⟨(by have h9 := own_setRow (cs' := #[.int .i64 2, .int .i64 0, .int .i64 0, .int .i64 0, .int .i64 0, .int .i64 0, .int .i64 0, .int .i64 0, .int .i64 0, .int .i64 0, .int .i64 0, .int .i64 0, .int .i64 1, .int .i64 n3, .slice A4 m4 c4, .int .i64 0, .int .i64 0, .slice A6 m6 c6, .int .i64 0, .slice none 0 0]) HRC.out (by decide) HO4s2kpks3.out; rw [← HE4.out] at h9 ⊢; exact own_more h9 (by first | omega | exact Nat.le_refl _)), (by have h9 := own_setRow (cs' := #[.int .i64 2, .int .i64 0, .int .i64 0, .int .i64 0, .int .i64 0, .int .i64 0, .int .i64 0, .int .i64 0, .int .i64 0, .int .i64 0, .int .i64 0, .int .i64 0, .int .i64 1, .int .i64 n3, .slice A4 m4 c4, .int .i64 0, .int .i64 0, .slice A6 m6 c6, .int .i64 0, .slice none 0 0]) HRC.out (by decide) HO6s3.out; rw [← HE6.out] at h9 ⊢; exact own_more h9 (by first | omega | exact Nat.le_refl _)), World.ownsRow_nil _ _ _ _⟩, lineS_put HR3.out HM4.out HST4.out (show false = (decide (nextW ws4 = [47]) && nextOk ws4 ok4) by rw [HNX.out.1, HNX.out.2]; rw [decide_eq_false HSL.out]; rfl) HM6.out HST6.out⟩
set_option maxHeartbeats 8000000 in
set_option maxRecDepth 100000 in
theorem ask_2 {w0 w : World} (hG : G w0) {rb : Nat} {ws : List Wd} {ok : Bool} (hl : ∀ x ∈ ws, x.length ≤ 1000000) (hwl : ws.length ≤ 1000000) (h : RSt w0 rb ws ok w) :
    Calls Tryz.prog 55 #[.pointer (some ⟨rb, 0, none⟩), .int .i64 2] w (AskPost w0 w rb (wScore :: ws) ok) := by
  have hmf : ∀ (fn : Fn) (first cap : Array Value) (w : World), (Instr.makeFunc fn first cap).run Tryz.prog w = .ok (.func fn first cap) w := fun _ _ _ _ => rfl
  have HG := Lib.hid hG
  have hlt := h.rd.lt
  have H0 := Lib.hid (fun (W : World) (hb : Below w.heap.size w W) => h.free hb)
  have HL := Lib.hid hl
  clear h hG hl
  go_enter Tryz.func55, Tryz.ntmps55
  go_wp2_with (first
    | (refine (id ?_ : wpList _ _ _ (⟨none, .store _ (.tmp 5) (.tmp 8), _, _, _, _⟩ :: _) _ _)
       refine wpList_store_row rfl 31 (.tmp 5) (.tmp 8) rfl (w.heap.size + 1) _ (by rfl) (by rfl) 31 _ (alloc2_new w _ _) (by kernel_rfl) (by rfl) (all_one _ (by rfl)) ?_
       generalize hW2 : World.setRow _ _ _ = W2
       have hLB : W2.heap[w.heap.size + 1]? = some (.cells #[.int .i64 2, .int .i64 0, .int .i64 0, .int .i64 0, .int .i64 0, .int .i64 0, .int .i64 0, .int .i64 0, .int .i64 0, .int .i64 0, .int .i64 0, .int .i64 0, .int .i64 2, .int .i64 0, .slice none 0 0, .int .i64 0, .int .i64 0, .slice none 0 0, .int .i64 0, .slice none 0 0] 31 (0, 0)) := by rw [← hW2]; exact setRow_heap _ _ _ _ _ _ (alloc2_new w _ _)
       have hRC : W2.heap[w.heap.size]? = some (.cells #[.int .i64 0, .int .i64 0, .int .i64 0, .int .i64 0, .int .i64 0, .int .i64 0, .int .i64 0, .int .i64 0, .int .i64 0, .int .i64 0, .int .i64 0, .int .i64 0, .int .i64 0, .int .i64 0, .slice none 0 0, .int .i64 0, .int .i64 0, .slice none 0 0, .int .i64 0, .slice none 0 0] 31 (0, 0)) := by rw [← hW2]; exact (setRow_other _ _ _ _ (by simp)).trans ((Below.heap_alloc _ _ _ (by simp)).trans (heap_alloc_new w _))
       have hb : Below w.heap.size w W2 := by rw [← hW2]; exact below_setRow (below_a2 w _ _) (Nat.le_succ _) _
       have HLB := Lib.hid hLB
       have HRC := Lib.hid hRC
       have H2 := Lib.hid (H0.out _ hb)
       have HK2 := Lib.hid (KR.of_below (rb := rb) hb (Nat.le_of_lt hlt))
       have hz2 := hb.size
       clear hb hLB hRC hW2 H0)
    | (refine (id ?_ : wpList _ _ _ (⟨some 64, .load _ _, _, _, _, _⟩ :: _) _ _)
       refine wpList_load_row rfl 31 (.tmp 5) rfl (w.heap.size + 1) (by rfl) _ _ _ _ HLB.out Tryz.underlying31 rfl (by kernel_rfl) ?_)
    | (refine (id ?_ : wpList _ _ _ (⟨none, .store _ (.tmp 4) _, _, _, _, _⟩ :: _) _ _)
       refine wpList_store_row rfl 31 (.tmp 4) (.tmp 64) rfl w.heap.size _ (by rfl) (by rfl) 31 _ HRC.out (by kernel_rfl) (by rfl) (all_one _ (by rfl)) ?_))
  refine (manyI_any HG.out [] HL.out hwl H2.out).mono ?_
  rintro e V3 ⟨xs3, ws3, ok3, v3, rfl, ho3, h3, hk3, hm3, hs3, hl3, hle3⟩
  obtain ⟨A3, c3, rfl⟩ := slice_of ho3
  obtain ⟨m3, hm3e⟩ : ∃ m, xs3.length = m := ⟨_, rfl⟩
  rw [hm3e] at ho3 ⊢
  have HE3 := Lib.hid hm3e
  have HO3 := Lib.hid ho3
  have HM3 := Lib.hid hm3
  have HST3 := Lib.hid hs3
  have HL3 := Lib.hid hl3
  have HWL3 := Lib.hid (show ws3.tail.length ≤ 1000000 from tail_le (Nat.le_trans hle3 hwl))
  clear ho3 hm3 hs3 hl3 hle3 hm3e
  have hLB0 := HLB.out
  have hRC0 := HRC.out
  clear HLB HRC
  have HLB := Lib.hid (hk3.cells (k := w.heap.size + 1) (by omega) hLB0)
  have HRC := Lib.hid (hk3.cells (k := w.heap.size) (by omega) hRC0)
  clear hLB0 hRC0
  have J3 := Lib.hid h3
  have JK3 := Lib.hid (HK2.out.trans hk3)
  have hz3 := (HK2.out.trans hk3).size
  clear h3 hk3
  have hLB0 := HLB.out
  have hRC0 := HRC.out
  clear HLB HRC
  have HLB := Lib.hid (show (V3.setCell ⟨w.heap.size + 1, 14, none⟩ (.slice A3 m3 c3)).heap[w.heap.size + 1]? = some (.cells #[.int .i64 2, .int .i64 0, .int .i64 0, .int .i64 0, .int .i64 0, .int .i64 0, .int .i64 0, .int .i64 0, .int .i64 0, .int .i64 0, .int .i64 0, .int .i64 0, .int .i64 2, .int .i64 0, .slice A3 m3 c3, .int .i64 0, .int .i64 0, .slice none 0 0, .int .i64 0, .slice none 0 0] 31 (0, 0)) by rw [Go.heap_setCell_same _ _ _ _ _ _ hLB0]; rfl)
  have HRC := Lib.hid (show (V3.setCell ⟨w.heap.size + 1, 14, none⟩ (.slice A3 m3 c3)).heap[w.heap.size]? = some (.cells #[.int .i64 0, .int .i64 0, .int .i64 0, .int .i64 0, .int .i64 0, .int .i64 0, .int .i64 0, .int .i64 0, .int .i64 0, .int .i64 0, .int .i64 0, .int .i64 0, .int .i64 0, .int .i64 0, .slice none 0 0, .int .i64 0, .int .i64 0, .slice none 0 0, .int .i64 0, .slice none 0 0] 31 (0, 0)) from (Below.heap_setCell _ _ _ _ (by simp)).trans hRC0)
  have HS1 := Lib.hid (J3.out.other (g := w.heap.size + 1) (by omega) 14 (.slice A3 m3 c3))
  have HKS1 := Lib.hid (JK3.out.other hlt (g := w.heap.size + 1) (by omega) 14 (.slice A3 m3 c3))
  have HO3s1 := Lib.hid (own_setCell (o := 14) (u := .slice A3 m3 c3) hLB0 (by decide) HO3.out)
  have lbz : w.heap.size + 1 < V3.heap.size := (Array.getElem?_eq_some_iff.1 hLB0).1
  have lc := cell_heap hLB0 (o := 14) rfl
  have lf := free_heap hLB0 14
  clear hLB0 hRC0
  go_wp2_with (first
      | (refine (id ?_ : wpList _ _ _ (⟨some 64, .load _ _, _, _, _, _⟩ :: _) _ _)
         refine wpList_load_row rfl 31 (.tmp 5) rfl (w.heap.size + 1) (by rfl) _ _ _ _ HLB.out Tryz.underlying31 rfl (by kernel_rfl) ?_)
      | (refine (id ?_ : wpList _ _ _ (⟨none, .store _ (.tmp 4) _, _, _, _, _⟩ :: _) _ _)
         refine wpList_store_row rfl 31 (.tmp 4) (.tmp 64) rfl w.heap.size _ (by rfl) (by rfl) 31 _ HRC.out (by kernel_rfl) (by rfl) (all_one _ (by rfl)) ?_))
  have hF := setRow_heap _ _ _ #[.int .i64 2, .int .i64 0, .int .i64 0, .int .i64 0, .int .i64 0, .int .i64 0, .int .i64 0, .int .i64 0, .int .i64 0, .int .i64 0, .int .i64 0, .int .i64 0, .int .i64 2, .int .i64 0, .slice A3 m3 c3, .int .i64 0, .int .i64 0, .slice none 0 0, .int .i64 0, .slice none 0 0] _ _ HRC.out
  refine bodyPost_ret (v := .agg #[.int .i64 2, .int .i64 0, .int .i64 0, .int .i64 0, .int .i64 0, .int .i64 0, .int .i64 0, .int .i64 0, .int .i64 0, .int .i64 0, .int .i64 0, .int .i64 0, .int .i64 2, .int .i64 0, .slice A3 m3 c3, .int .i64 0, .int .i64 0, .slice none 0 0, .int .i64 0, .slice none 0 0]) (results_cell_row (p := 4) (by kernel_rfl) _ _ w.heap.size _ _ _ _ (by rfl) hF Tryz.underlying31 rfl (by kernel_rfl)) rfl ?_
  exact ⟨⟨.slice A3 m3 c3, .slice none 0 0, .slice none 0 0, onlyAk ⟨2, 0, xs3, 0, 0⟩ []⟩, _, _, rfl, RdsRSt_row HS1.out (by omega) _, KR_row HKS1.out hlt _, ⟨(by have h9 := own_setRow (cs' := #[.int .i64 2, .int .i64 0, .int .i64 0, .int .i64 0, .int .i64 0, .int .i64 0, .int .i64 0, .int .i64 0, .int .i64 0, .int .i64 0, .int .i64 0, .int .i64 0, .int .i64 2, .int .i64 0, .slice A3 m3 c3, .int .i64 0, .int .i64 0, .slice none 0 0, .int .i64 0, .slice none 0 0]) HRC.out (by decide) HO3s1.out; rw [← HE3.out] at h9 ⊢; exact own_more h9 (by first | omega | exact Nat.le_refl _)), World.ownsRow_nil _ _ _ _, World.ownsRow_nil _ _ _ _⟩, lineS_2 HM3.out HST3.out⟩
set_option maxHeartbeats 8000000 in
set_option maxRecDepth 100000 in
theorem ask_7 {w0 w : World} (hG : G w0) {rb : Nat} {ws : List Wd} {ok : Bool} (hl : ∀ x ∈ ws, x.length ≤ 1000000) (hwl : ws.length ≤ 1000000) (h : RSt w0 rb ws ok w) :
    Calls Tryz.prog 55 #[.pointer (some ⟨rb, 0, none⟩), .int .i64 7] w (AskPost w0 w rb (wWhy :: ws) ok) := by
  have hmf : ∀ (fn : Fn) (first cap : Array Value) (w : World), (Instr.makeFunc fn first cap).run Tryz.prog w = .ok (.func fn first cap) w := fun _ _ _ _ => rfl
  have HG := Lib.hid hG
  have hlt := h.rd.lt
  have H0 := Lib.hid (fun (W : World) (hb : Below w.heap.size w W) => h.free hb)
  have HL := Lib.hid hl
  clear h hG hl
  go_enter Tryz.func55, Tryz.ntmps55
  go_wp2_with (first
    | (refine (id ?_ : wpList _ _ _ (⟨none, .store _ (.tmp 5) (.tmp 8), _, _, _, _⟩ :: _) _ _)
       refine wpList_store_row rfl 31 (.tmp 5) (.tmp 8) rfl (w.heap.size + 1) _ (by rfl) (by rfl) 31 _ (alloc2_new w _ _) (by kernel_rfl) (by rfl) (all_one _ (by rfl)) ?_
       generalize hW2 : World.setRow _ _ _ = W2
       have hLB : W2.heap[w.heap.size + 1]? = some (.cells #[.int .i64 2, .int .i64 0, .int .i64 0, .int .i64 0, .int .i64 0, .int .i64 0, .int .i64 0, .int .i64 0, .int .i64 0, .int .i64 0, .int .i64 0, .int .i64 0, .int .i64 7, .int .i64 0, .slice none 0 0, .int .i64 0, .int .i64 0, .slice none 0 0, .int .i64 0, .slice none 0 0] 31 (0, 0)) := by rw [← hW2]; exact setRow_heap _ _ _ _ _ _ (alloc2_new w _ _)
       have hRC : W2.heap[w.heap.size]? = some (.cells #[.int .i64 0, .int .i64 0, .int .i64 0, .int .i64 0, .int .i64 0, .int .i64 0, .int .i64 0, .int .i64 0, .int .i64 0, .int .i64 0, .int .i64 0, .int .i64 0, .int .i64 0, .int .i64 0, .slice none 0 0, .int .i64 0, .int .i64 0, .slice none 0 0, .int .i64 0, .slice none 0 0] 31 (0, 0)) := by rw [← hW2]; exact (setRow_other _ _ _ _ (by simp)).trans ((Below.heap_alloc _ _ _ (by simp)).trans (heap_alloc_new w _))
       have hb : Below w.heap.size w W2 := by rw [← hW2]; exact below_setRow (below_a2 w _ _) (Nat.le_succ _) _
       have HLB := Lib.hid hLB
       have HRC := Lib.hid hRC
       have H2 := Lib.hid (H0.out _ hb)
       have HK2 := Lib.hid (KR.of_below (rb := rb) hb (Nat.le_of_lt hlt))
       have hz2 := hb.size
       clear hb hLB hRC hW2 H0)
    | (refine (id ?_ : wpList _ _ _ (⟨some 64, .load _ _, _, _, _, _⟩ :: _) _ _)
       refine wpList_load_row rfl 31 (.tmp 5) rfl (w.heap.size + 1) (by rfl) _ _ _ _ HLB.out Tryz.underlying31 rfl (by kernel_rfl) ?_)
    | (refine (id ?_ : wpList _ _ _ (⟨none, .store _ (.tmp 4) _, _, _, _, _⟩ :: _) _ _)
       refine wpList_store_row rfl 31 (.tmp 4) (.tmp 64) rfl w.heap.size _ (by rfl) (by rfl) 31 _ HRC.out (by kernel_rfl) (by rfl) (all_one _ (by rfl)) ?_))
  refine (manyI_any HG.out [] HL.out hwl H2.out).mono ?_
  rintro e V3 ⟨xs3, ws3, ok3, v3, rfl, ho3, h3, hk3, hm3, hs3, hl3, hle3⟩
  obtain ⟨A3, c3, rfl⟩ := slice_of ho3
  obtain ⟨m3, hm3e⟩ : ∃ m, xs3.length = m := ⟨_, rfl⟩
  rw [hm3e] at ho3 ⊢
  have HE3 := Lib.hid hm3e
  have HO3 := Lib.hid ho3
  have HM3 := Lib.hid hm3
  have HST3 := Lib.hid hs3
  have HL3 := Lib.hid hl3
  have HWL3 := Lib.hid (show ws3.tail.length ≤ 1000000 from tail_le (Nat.le_trans hle3 hwl))
  clear ho3 hm3 hs3 hl3 hle3 hm3e
  have hLB0 := HLB.out
  have hRC0 := HRC.out
  clear HLB HRC
  have HLB := Lib.hid (hk3.cells (k := w.heap.size + 1) (by omega) hLB0)
  have HRC := Lib.hid (hk3.cells (k := w.heap.size) (by omega) hRC0)
  clear hLB0 hRC0
  have J3 := Lib.hid h3
  have JK3 := Lib.hid (HK2.out.trans hk3)
  have hz3 := (HK2.out.trans hk3).size
  clear h3 hk3
  have hLB0 := HLB.out
  have hRC0 := HRC.out
  clear HLB HRC
  have HLB := Lib.hid (show (V3.setCell ⟨w.heap.size + 1, 14, none⟩ (.slice A3 m3 c3)).heap[w.heap.size + 1]? = some (.cells #[.int .i64 2, .int .i64 0, .int .i64 0, .int .i64 0, .int .i64 0, .int .i64 0, .int .i64 0, .int .i64 0, .int .i64 0, .int .i64 0, .int .i64 0, .int .i64 0, .int .i64 7, .int .i64 0, .slice A3 m3 c3, .int .i64 0, .int .i64 0, .slice none 0 0, .int .i64 0, .slice none 0 0] 31 (0, 0)) by rw [Go.heap_setCell_same _ _ _ _ _ _ hLB0]; rfl)
  have HRC := Lib.hid (show (V3.setCell ⟨w.heap.size + 1, 14, none⟩ (.slice A3 m3 c3)).heap[w.heap.size]? = some (.cells #[.int .i64 0, .int .i64 0, .int .i64 0, .int .i64 0, .int .i64 0, .int .i64 0, .int .i64 0, .int .i64 0, .int .i64 0, .int .i64 0, .int .i64 0, .int .i64 0, .int .i64 0, .int .i64 0, .slice none 0 0, .int .i64 0, .int .i64 0, .slice none 0 0, .int .i64 0, .slice none 0 0] 31 (0, 0)) from (Below.heap_setCell _ _ _ _ (by simp)).trans hRC0)
  have HS1 := Lib.hid (J3.out.other (g := w.heap.size + 1) (by omega) 14 (.slice A3 m3 c3))
  have HKS1 := Lib.hid (JK3.out.other hlt (g := w.heap.size + 1) (by omega) 14 (.slice A3 m3 c3))
  have HO3s1 := Lib.hid (own_setCell (o := 14) (u := .slice A3 m3 c3) hLB0 (by decide) HO3.out)
  have lbz : w.heap.size + 1 < V3.heap.size := (Array.getElem?_eq_some_iff.1 hLB0).1
  have lc := cell_heap hLB0 (o := 14) rfl
  have lf := free_heap hLB0 14
  clear hLB0 hRC0
  go_wp2_with (first
      | (refine (id ?_ : wpList _ _ _ (⟨some 64, .load _ _, _, _, _, _⟩ :: _) _ _)
         refine wpList_load_row rfl 31 (.tmp 5) rfl (w.heap.size + 1) (by rfl) _ _ _ _ HLB.out Tryz.underlying31 rfl (by kernel_rfl) ?_)
      | (refine (id ?_ : wpList _ _ _ (⟨none, .store _ (.tmp 4) _, _, _, _, _⟩ :: _) _ _)
         refine wpList_store_row rfl 31 (.tmp 4) (.tmp 64) rfl w.heap.size _ (by rfl) (by rfl) 31 _ HRC.out (by kernel_rfl) (by rfl) (all_one _ (by rfl)) ?_))
  have hF := setRow_heap _ _ _ #[.int .i64 2, .int .i64 0, .int .i64 0, .int .i64 0, .int .i64 0, .int .i64 0, .int .i64 0, .int .i64 0, .int .i64 0, .int .i64 0, .int .i64 0, .int .i64 0, .int .i64 7, .int .i64 0, .slice A3 m3 c3, .int .i64 0, .int .i64 0, .slice none 0 0, .int .i64 0, .slice none 0 0] _ _ HRC.out
  refine bodyPost_ret (v := .agg #[.int .i64 2, .int .i64 0, .int .i64 0, .int .i64 0, .int .i64 0, .int .i64 0, .int .i64 0, .int .i64 0, .int .i64 0, .int .i64 0, .int .i64 0, .int .i64 0, .int .i64 7, .int .i64 0, .slice A3 m3 c3, .int .i64 0, .int .i64 0, .slice none 0 0, .int .i64 0, .slice none 0 0]) (results_cell_row (p := 4) (by kernel_rfl) _ _ w.heap.size _ _ _ _ (by rfl) hF Tryz.underlying31 rfl (by kernel_rfl)) rfl ?_
  exact ⟨⟨.slice A3 m3 c3, .slice none 0 0, .slice none 0 0, onlyAk ⟨7, 0, xs3, 0, 0⟩ []⟩, _, _, rfl, RdsRSt_row HS1.out (by omega) _, KR_row HKS1.out hlt _, ⟨(by have h9 := own_setRow (cs' := #[.int .i64 2, .int .i64 0, .int .i64 0, .int .i64 0, .int .i64 0, .int .i64 0, .int .i64 0, .int .i64 0, .int .i64 0, .int .i64 0, .int .i64 0, .int .i64 0, .int .i64 7, .int .i64 0, .slice A3 m3 c3, .int .i64 0, .int .i64 0, .slice none 0 0, .int .i64 0, .slice none 0 0]) HRC.out (by decide) HO3s1.out; rw [← HE3.out] at h9 ⊢; exact own_more h9 (by first | omega | exact Nat.le_refl _)), World.ownsRow_nil _ _ _ _, World.ownsRow_nil _ _ _ _⟩, lineS_7 HM3.out HST3.out⟩
set_option maxHeartbeats 8000000 in
set_option maxRecDepth 100000 in
theorem ask_3 {w0 w : World} (hG : G w0) {rb : Nat} {ws : List Wd} {ok : Bool} (hl : ∀ x ∈ ws, x.length ≤ 1000000) (hwl : ws.length ≤ 1000000) (h : RSt w0 rb ws ok w) :
    Calls Tryz.prog 55 #[.pointer (some ⟨rb, 0, none⟩), .int .i64 3] w (AskPost w0 w rb (wAlerts :: ws) ok) := by
  have hmf : ∀ (fn : Fn) (first cap : Array Value) (w : World), (Instr.makeFunc fn first cap).run Tryz.prog w = .ok (.func fn first cap) w := fun _ _ _ _ => rfl
  have HG := Lib.hid hG
  have hlt := h.rd.lt
  have H0 := Lib.hid (fun (W : World) (hb : Below w.heap.size w W) => h.free hb)
  have HL := Lib.hid hl
  clear h hG hl
  go_enter Tryz.func55, Tryz.ntmps55
  go_wp2_with (first
    | (refine (id ?_ : wpList _ _ _ (⟨none, .store _ (.tmp 5) (.tmp 8), _, _, _, _⟩ :: _) _ _)
       refine wpList_store_row rfl 31 (.tmp 5) (.tmp 8) rfl (w.heap.size + 1) _ (by rfl) (by rfl) 31 _ (alloc2_new w _ _) (by kernel_rfl) (by rfl) (all_one _ (by rfl)) ?_
       generalize hW2 : World.setRow _ _ _ = W2
       have hLB : W2.heap[w.heap.size + 1]? = some (.cells #[.int .i64 2, .int .i64 0, .int .i64 0, .int .i64 0, .int .i64 0, .int .i64 0, .int .i64 0, .int .i64 0, .int .i64 0, .int .i64 0, .int .i64 0, .int .i64 0, .int .i64 3, .int .i64 0, .slice none 0 0, .int .i64 0, .int .i64 0, .slice none 0 0, .int .i64 0, .slice none 0 0] 31 (0, 0)) := by rw [← hW2]; exact setRow_heap _ _ _ _ _ _ (alloc2_new w _ _)
       have hRC : W2.heap[w.heap.size]? = some (.cells #[.int .i64 0, .int .i64 0, .int .i64 0, .int .i64 0, .int .i64 0, .int .i64 0, .int .i64 0, .int .i64 0, .int .i64 0, .int .i64 0, .int .i64 0, .int .i64 0, .int .i64 0, .int .i64 0, .slice none 0 0, .int .i64 0, .int .i64 0, .slice none 0 0, .int .i64 0, .slice none 0 0] 31 (0, 0)) := by rw [← hW2]; exact (setRow_other _ _ _ _ (by simp)).trans ((Below.heap_alloc _ _ _ (by simp)).trans (heap_alloc_new w _))
       have hb : Below w.heap.size w W2 := by rw [← hW2]; exact below_setRow (below_a2 w _ _) (Nat.le_succ _) _
       have HLB := Lib.hid hLB
       have HRC := Lib.hid hRC
       have H2 := Lib.hid (H0.out _ hb)
       have HK2 := Lib.hid (KR.of_below (rb := rb) hb (Nat.le_of_lt hlt))
       have hz2 := hb.size
       clear hb hLB hRC hW2 H0)
    | (refine (id ?_ : wpList _ _ _ (⟨some 64, .load _ _, _, _, _, _⟩ :: _) _ _)
       refine wpList_load_row rfl 31 (.tmp 5) rfl (w.heap.size + 1) (by rfl) _ _ _ _ HLB.out Tryz.underlying31 rfl (by kernel_rfl) ?_)
    | (refine (id ?_ : wpList _ _ _ (⟨none, .store _ (.tmp 4) _, _, _, _, _⟩ :: _) _ _)
       refine wpList_store_row rfl 31 (.tmp 4) (.tmp 64) rfl w.heap.size _ (by rfl) (by rfl) 31 _ HRC.out (by kernel_rfl) (by rfl) (all_one _ (by rfl)) ?_))
  refine (int_any HG.out HL.out H2.out).mono ?_
  rintro e V3 ⟨n3, ok3, rfl, h3, hk3, hr3⟩
  have HR3 := Lib.hid hr3
  clear hr3
  have hLB0 := HLB.out
  have hRC0 := HRC.out
  clear HLB HRC
  have HLB := Lib.hid (hk3.cells (k := w.heap.size + 1) (by omega) hLB0)
  have HRC := Lib.hid (hk3.cells (k := w.heap.size) (by omega) hRC0)
  clear hLB0 hRC0
  have J3 := Lib.hid h3
  have JK3 := Lib.hid (HK2.out.trans hk3)
  have hz3 := (HK2.out.trans hk3).size
  clear h3 hk3
  have HL3 := Lib.hid (tail_len HL.out)
  have hLB0 := HLB.out
  have hRC0 := HRC.out
  clear HLB HRC
  have HLB := Lib.hid (show (V3.setCell ⟨w.heap.size + 1, 15, none⟩ (.int .i64 n3)).heap[w.heap.size + 1]? = some (.cells #[.int .i64 2, .int .i64 0, .int .i64 0, .int .i64 0, .int .i64 0, .int .i64 0, .int .i64 0, .int .i64 0, .int .i64 0, .int .i64 0, .int .i64 0, .int .i64 0, .int .i64 3, .int .i64 0, .slice none 0 0, .int .i64 n3, .int .i64 0, .slice none 0 0, .int .i64 0, .slice none 0 0] 31 (0, 0)) by rw [Go.heap_setCell_same _ _ _ _ _ _ hLB0]; rfl)
  have HRC := Lib.hid (show (V3.setCell ⟨w.heap.size + 1, 15, none⟩ (.int .i64 n3)).heap[w.heap.size]? = some (.cells #[.int .i64 0, .int .i64 0, .int .i64 0, .int .i64 0, .int .i64 0, .int .i64 0, .int .i64 0, .int .i64 0, .int .i64 0, .int .i64 0, .int .i64 0, .int .i64 0, .int .i64 0, .int .i64 0, .slice none 0 0, .int .i64 0, .int .i64 0, .slice none 0 0, .int .i64 0, .slice none 0 0] 31 (0, 0)) from (Below.heap_setCell _ _ _ _ (by simp)).trans hRC0)
  have HS1 := Lib.hid (J3.out.other (g := w.heap.size + 1) (by omega) 15 (.int .i64 n3))
  have HKS1 := Lib.hid (JK3.out.other hlt (g := w.heap.size + 1) (by omega) 15 (.int .i64 n3))
  have lbz : w.heap.size + 1 < V3.heap.size := (Array.getElem?_eq_some_iff.1 hLB0).1
  have lc := cell_heap hLB0 (o := 15) rfl
  have lf := free_heap hLB0 15
  clear hLB0 hRC0
  go_wp2_with (first
      | (refine (id ?_ : wpList _ _ _ (⟨some 64, .load _ _, _, _, _, _⟩ :: _) _ _)
         refine wpList_load_row rfl 31 (.tmp 5) rfl (w.heap.size + 1) (by rfl) _ _ _ _ HLB.out Tryz.underlying31 rfl (by kernel_rfl) ?_)
      | (refine (id ?_ : wpList _ _ _ (⟨none, .store _ (.tmp 4) _, _, _, _, _⟩ :: _) _ _)
         refine wpList_store_row rfl 31 (.tmp 4) (.tmp 64) rfl w.heap.size _ (by rfl) (by rfl) 31 _ HRC.out (by kernel_rfl) (by rfl) (all_one _ (by rfl)) ?_))
  obtain ⟨Y1, hY1⟩ : ∃ Y, (V3.setCell ⟨w.heap.size + 1, 15, none⟩ (.int .i64 n3)) = Y := ⟨_, rfl⟩
  rw [hY1] at HLB HRC HS1 HKS1  ⊢
  clear hY1 lbz lc lf
  have hzy1 : w.heap.size ≤ Y1.heap.size := HKS1.out.size
  refine (int_any HG.out HL3.out HS1.out).mono ?_
  rintro e V4 ⟨n4, ok4, rfl, h4, hk4, hr4⟩
  have HR4 := Lib.hid hr4
  clear hr4
  have hLB0 := HLB.out
  have hRC0 := HRC.out
  clear HLB HRC
  have HLB := Lib.hid (hk4.cells (k := w.heap.size + 1) (by omega) hLB0)
  have HRC := Lib.hid (hk4.cells (k := w.heap.size) (by omega) hRC0)
  clear hLB0 hRC0
  have J4 := Lib.hid h4
  have JK4 := Lib.hid (HKS1.out.trans hk4)
  have hz4 := (HKS1.out.trans hk4).size
  clear h4 hk4
  have HL4 := Lib.hid (tail_len HL3.out)
  have hLB0 := HLB.out
  have hRC0 := HRC.out
  clear HLB HRC
  have HLB := Lib.hid (show (V4.setCell ⟨w.heap.size + 1, 16, none⟩ (.int .i64 n4)).heap[w.heap.size + 1]? = some (.cells #[.int .i64 2, .int .i64 0, .int .i64 0, .int .i64 0, .int .i64 0, .int .i64 0, .int .i64 0, .int .i64 0, .int .i64 0, .int .i64 0, .int .i64 0, .int .i64 0, .int .i64 3, .int .i64 0, .slice none 0 0, .int .i64 n3, .int .i64 n4, .slice none 0 0, .int .i64 0, .slice none 0 0] 31 (0, 0)) by rw [Go.heap_setCell_same _ _ _ _ _ _ hLB0]; rfl)
  have HRC := Lib.hid (show (V4.setCell ⟨w.heap.size + 1, 16, none⟩ (.int .i64 n4)).heap[w.heap.size]? = some (.cells #[.int .i64 0, .int .i64 0, .int .i64 0, .int .i64 0, .int .i64 0, .int .i64 0, .int .i64 0, .int .i64 0, .int .i64 0, .int .i64 0, .int .i64 0, .int .i64 0, .int .i64 0, .int .i64 0, .slice none 0 0, .int .i64 0, .int .i64 0, .slice none 0 0, .int .i64 0, .slice none 0 0] 31 (0, 0)) from (Below.heap_setCell _ _ _ _ (by simp)).trans hRC0)
  have HS2 := Lib.hid (J4.out.other (g := w.heap.size + 1) (by omega) 16 (.int .i64 n4))
  have HKS2 := Lib.hid (JK4.out.other hlt (g := w.heap.size + 1) (by omega) 16 (.int .i64 n4))
  have lbz : w.heap.size + 1 < V4.heap.size := (Array.getElem?_eq_some_iff.1 hLB0).1
  have lc := cell_heap hLB0 (o := 16) rfl
  have lf := free_heap hLB0 16
  clear hLB0 hRC0
  go_wp2_with (first
      | (refine (id ?_ : wpList _ _ _ (⟨some 64, .load _ _, _, _, _, _⟩ :: _) _ _)
         refine wpList_load_row rfl 31 (.tmp 5) rfl (w.heap.size + 1) (by rfl) _ _ _ _ HLB.out Tryz.underlying31 rfl (by kernel_rfl) ?_)
      | (refine (id ?_ : wpList _ _ _ (⟨none, .store _ (.tmp 4) _, _, _, _, _⟩ :: _) _ _)
         refine wpList_store_row rfl 31 (.tmp 4) (.tmp 64) rfl w.heap.size _ (by rfl) (by rfl) 31 _ HRC.out (by kernel_rfl) (by rfl) (all_one _ (by rfl)) ?_))
  have hF := setRow_heap _ _ _ #[.int .i64 2, .int .i64 0, .int .i64 0, .int .i64 0, .int .i64 0, .int .i64 0, .int .i64 0, .int .i64 0, .int .i64 0, .int .i64 0, .int .i64 0, .int .i64 0, .int .i64 3, .int .i64 0, .slice none 0 0, .int .i64 n3, .int .i64 n4, .slice none 0 0, .int .i64 0, .slice none 0 0] _ _ HRC.out
  refine bodyPost_ret (v := .agg #[.int .i64 2, .int .i64 0, .int .i64 0, .int .i64 0, .int .i64 0, .int .i64 0, .int .i64 0, .int .i64 0, .int .i64 0, .int .i64 0, .int .i64 0, .int .i64 0, .int .i64 3, .int .i64 0, .slice none 0 0, .int .i64 n3, .int .i64 n4, .slice none 0 0, .int .i64 0, .slice none 0 0]) (results_cell_row (p := 4) (by kernel_rfl) _ _ w.heap.size _ _ _ _ (by rfl) hF Tryz.underlying31 rfl (by kernel_rfl)) rfl ?_
  exact ⟨⟨.slice none 0 0, .slice none 0 0, .slice none 0 0, onlyAk ⟨3, 0, [], n3, n4⟩ []⟩, _, _, rfl, RdsRSt_row HS2.out (by omega) _, KR_row HKS2.out hlt _, LnOw.nil_ ⟨rfl, rfl, rfl⟩, lineS_3 HR3.out HR4.out⟩
set_option maxHeartbeats 8000000 in
set_option maxRecDepth 100000 in
theorem ask_4 {w0 w : World} (hG : G w0) {rb : Nat} {ws : List Wd} {ok : Bool} (hl : ∀ x ∈ ws, x.length ≤ 1000000) (hwl : ws.length ≤ 1000000) (h : RSt w0 rb ws ok w) :
    Calls Tryz.prog 55 #[.pointer (some ⟨rb, 0, none⟩), .int .i64 4] w (AskPost w0 w rb (wAck :: ws) ok) := by
  have hmf : ∀ (fn : Fn) (first cap : Array Value) (w : World), (Instr.makeFunc fn first cap).run Tryz.prog w = .ok (.func fn first cap) w := fun _ _ _ _ => rfl
  have HG := Lib.hid hG
  have hlt := h.rd.lt
  have H0 := Lib.hid (fun (W : World) (hb : Below w.heap.size w W) => h.free hb)
  have HL := Lib.hid hl
  clear h hG hl
  go_enter Tryz.func55, Tryz.ntmps55
  go_wp2_with (first
    | (refine (id ?_ : wpList _ _ _ (⟨none, .store _ (.tmp 5) (.tmp 8), _, _, _, _⟩ :: _) _ _)
       refine wpList_store_row rfl 31 (.tmp 5) (.tmp 8) rfl (w.heap.size + 1) _ (by rfl) (by rfl) 31 _ (alloc2_new w _ _) (by kernel_rfl) (by rfl) (all_one _ (by rfl)) ?_
       generalize hW2 : World.setRow _ _ _ = W2
       have hLB : W2.heap[w.heap.size + 1]? = some (.cells #[.int .i64 2, .int .i64 0, .int .i64 0, .int .i64 0, .int .i64 0, .int .i64 0, .int .i64 0, .int .i64 0, .int .i64 0, .int .i64 0, .int .i64 0, .int .i64 0, .int .i64 4, .int .i64 0, .slice none 0 0, .int .i64 0, .int .i64 0, .slice none 0 0, .int .i64 0, .slice none 0 0] 31 (0, 0)) := by rw [← hW2]; exact setRow_heap _ _ _ _ _ _ (alloc2_new w _ _)
       have hRC : W2.heap[w.heap.size]? = some (.cells #[.int .i64 0, .int .i64 0, .int .i64 0, .int .i64 0, .int .i64 0, .int .i64 0, .int .i64 0, .int .i64 0, .int .i64 0, .int .i64 0, .int .i64 0, .int .i64 0, .int .i64 0, .int .i64 0, .slice none 0 0, .int .i64 0, .int .i64 0, .slice none 0 0, .int .i64 0, .slice none 0 0] 31 (0, 0)) := by rw [← hW2]; exact (setRow_other _ _ _ _ (by simp)).trans ((Below.heap_alloc _ _ _ (by simp)).trans (heap_alloc_new w _))
       have hb : Below w.heap.size w W2 := by rw [← hW2]; exact below_setRow (below_a2 w _ _) (Nat.le_succ _) _
       have HLB := Lib.hid hLB
       have HRC := Lib.hid hRC
       have H2 := Lib.hid (H0.out _ hb)
       have HK2 := Lib.hid (KR.of_below (rb := rb) hb (Nat.le_of_lt hlt))
       have hz2 := hb.size
       clear hb hLB hRC hW2 H0)
    | (refine (id ?_ : wpList _ _ _ (⟨some 64, .load _ _, _, _, _, _⟩ :: _) _ _)
       refine wpList_load_row rfl 31 (.tmp 5) rfl (w.heap.size + 1) (by rfl) _ _ _ _ HLB.out Tryz.underlying31 rfl (by kernel_rfl) ?_)
    | (refine (id ?_ : wpList _ _ _ (⟨none, .store _ (.tmp 4) _, _, _, _, _⟩ :: _) _ _)
       refine wpList_store_row rfl 31 (.tmp 4) (.tmp 64) rfl w.heap.size _ (by rfl) (by rfl) 31 _ HRC.out (by kernel_rfl) (by rfl) (all_one _ (by rfl)) ?_))
  refine (int_any HG.out HL.out H2.out).mono ?_
  rintro e V3 ⟨n3, ok3, rfl, h3, hk3, hr3⟩
  have HR3 := Lib.hid hr3
  clear hr3
  have hLB0 := HLB.out
  have hRC0 := HRC.out
  clear HLB HRC
  have HLB := Lib.hid (hk3.cells (k := w.heap.size + 1) (by omega) hLB0)
  have HRC := Lib.hid (hk3.cells (k := w.heap.size) (by omega) hRC0)
  clear hLB0 hRC0
  have J3 := Lib.hid h3
  have JK3 := Lib.hid (HK2.out.trans hk3)
  have hz3 := (HK2.out.trans hk3).size
  clear h3 hk3
  have HL3 := Lib.hid (tail_len HL.out)
  have hLB0 := HLB.out
  have hRC0 := HRC.out
  clear HLB HRC
  have HLB := Lib.hid (show (V3.setCell ⟨w.heap.size + 1, 15, none⟩ (.int .i64 n3)).heap[w.heap.size + 1]? = some (.cells #[.int .i64 2, .int .i64 0, .int .i64 0, .int .i64 0, .int .i64 0, .int .i64 0, .int .i64 0, .int .i64 0, .int .i64 0, .int .i64 0, .int .i64 0, .int .i64 0, .int .i64 4, .int .i64 0, .slice none 0 0, .int .i64 n3, .int .i64 0, .slice none 0 0, .int .i64 0, .slice none 0 0] 31 (0, 0)) by rw [Go.heap_setCell_same _ _ _ _ _ _ hLB0]; rfl)
  have HRC := Lib.hid (show (V3.setCell ⟨w.heap.size + 1, 15, none⟩ (.int .i64 n3)).heap[w.heap.size]? = some (.cells #[.int .i64 0, .int .i64 0, .int .i64 0, .int .i64 0, .int .i64 0, .int .i64 0, .int .i64 0, .int .i64 0, .int .i64 0, .int .i64 0, .int .i64 0, .int .i64 0, .int .i64 0, .int .i64 0, .slice none 0 0, .int .i64 0, .int .i64 0, .slice none 0 0, .int .i64 0, .slice none 0 0] 31 (0, 0)) from (Below.heap_setCell _ _ _ _ (by simp)).trans hRC0)
  have HS1 := Lib.hid (J3.out.other (g := w.heap.size + 1) (by omega) 15 (.int .i64 n3))
  have HKS1 := Lib.hid (JK3.out.other hlt (g := w.heap.size + 1) (by omega) 15 (.int .i64 n3))
  have lbz : w.heap.size + 1 < V3.heap.size := (Array.getElem?_eq_some_iff.1 hLB0).1
  have lc := cell_heap hLB0 (o := 15) rfl
  have lf := free_heap hLB0 15
  clear hLB0 hRC0
  go_wp2_with (first
      | (refine (id ?_ : wpList _ _ _ (⟨some 64, .load _ _, _, _, _, _⟩ :: _) _ _)
         refine wpList_load_row rfl 31 (.tmp 5) rfl (w.heap.size + 1) (by rfl) _ _ _ _ HLB.out Tryz.underlying31 rfl (by kernel_rfl) ?_)
      | (refine (id ?_ : wpList _ _ _ (⟨none, .store _ (.tmp 4) _, _, _, _, _⟩ :: _) _ _)
         refine wpList_store_row rfl 31 (.tmp 4) (.tmp 64) rfl w.heap.size _ (by rfl) (by rfl) 31 _ HRC.out (by kernel_rfl) (by rfl) (all_one _ (by rfl)) ?_))
  have hF := setRow_heap _ _ _ #[.int .i64 2, .int .i64 0, .int .i64 0, .int .i64 0, .int .i64 0, .int .i64 0, .int .i64 0, .int .i64 0, .int .i64 0, .int .i64 0, .int .i64 0, .int .i64 0, .int .i64 4, .int .i64 0, .slice none 0 0, .int .i64 n3, .int .i64 0, .slice none 0 0, .int .i64 0, .slice none 0 0] _ _ HRC.out
  refine bodyPost_ret (v := .agg #[.int .i64 2, .int .i64 0, .int .i64 0, .int .i64 0, .int .i64 0, .int .i64 0, .int .i64 0, .int .i64 0, .int .i64 0, .int .i64 0, .int .i64 0, .int .i64 0, .int .i64 4, .int .i64 0, .slice none 0 0, .int .i64 n3, .int .i64 0, .slice none 0 0, .int .i64 0, .slice none 0 0]) (results_cell_row (p := 4) (by kernel_rfl) _ _ w.heap.size _ _ _ _ (by rfl) hF Tryz.underlying31 rfl (by kernel_rfl)) rfl ?_
  exact ⟨⟨.slice none 0 0, .slice none 0 0, .slice none 0 0, onlyAk ⟨4, 0, [], n3, 0⟩ []⟩, _, _, rfl, RdsRSt_row HS1.out (by omega) _, KR_row HKS1.out hlt _, LnOw.nil_ ⟨rfl, rfl, rfl⟩, lineS_4 HR3.out⟩
set_option maxHeartbeats 8000000 in
set_option maxRecDepth 100000 in
theorem ask_5 {w0 w : World} (hG : G w0) {rb : Nat} {ws : List Wd} {ok : Bool} (hl : ∀ x ∈ ws, x.length ≤ 1000000) (hwl : ws.length ≤ 1000000) (h : RSt w0 rb ws ok w) :
    Calls Tryz.prog 55 #[.pointer (some ⟨rb, 0, none⟩), .int .i64 5] w (AskPost w0 w rb (wStats :: ws) ok) := by
  have hmf : ∀ (fn : Fn) (first cap : Array Value) (w : World), (Instr.makeFunc fn first cap).run Tryz.prog w = .ok (.func fn first cap) w := fun _ _ _ _ => rfl
  have HG := Lib.hid hG
  have hlt := h.rd.lt
  have H0 := Lib.hid (fun (W : World) (hb : Below w.heap.size w W) => h.free hb)
  have HL := Lib.hid hl
  clear h hG hl
  go_enter Tryz.func55, Tryz.ntmps55
  go_wp2_with (first
    | (refine (id ?_ : wpList _ _ _ (⟨none, .store _ (.tmp 5) (.tmp 8), _, _, _, _⟩ :: _) _ _)
       refine wpList_store_row rfl 31 (.tmp 5) (.tmp 8) rfl (w.heap.size + 1) _ (by rfl) (by rfl) 31 _ (alloc2_new w _ _) (by kernel_rfl) (by rfl) (all_one _ (by rfl)) ?_
       generalize hW2 : World.setRow _ _ _ = W2
       have hLB : W2.heap[w.heap.size + 1]? = some (.cells #[.int .i64 2, .int .i64 0, .int .i64 0, .int .i64 0, .int .i64 0, .int .i64 0, .int .i64 0, .int .i64 0, .int .i64 0, .int .i64 0, .int .i64 0, .int .i64 0, .int .i64 5, .int .i64 0, .slice none 0 0, .int .i64 0, .int .i64 0, .slice none 0 0, .int .i64 0, .slice none 0 0] 31 (0, 0)) := by rw [← hW2]; exact setRow_heap _ _ _ _ _ _ (alloc2_new w _ _)
       have hRC : W2.heap[w.heap.size]? = some (.cells #[.int .i64 0, .int .i64 0, .int .i64 0, .int .i64 0, .int .i64 0, .int .i64 0, .int .i64 0, .int .i64 0, .int .i64 0, .int .i64 0, .int .i64 0, .int .i64 0, .int .i64 0, .int .i64 0, .slice none 0 0, .int .i64 0, .int .i64 0, .slice none 0 0, .int .i64 0, .slice none 0 0] 31 (0, 0)) := by rw [← hW2]; exact (setRow_other _ _ _ _ (by simp)).trans ((Below.heap_alloc _ _ _ (by simp)).trans (heap_alloc_new w _))
       have hb : Below w.heap.size w W2 := by rw [← hW2]; exact below_setRow (below_a2 w _ _) (Nat.le_succ _) _
       have HLB := Lib.hid hLB
       have HRC := Lib.hid hRC
       have H2 := Lib.hid (H0.out _ hb)
       have HK2 := Lib.hid (KR.of_below (rb := rb) hb (Nat.le_of_lt hlt))
       have hz2 := hb.size
       clear hb hLB hRC hW2 H0)
    | (refine (id ?_ : wpList _ _ _ (⟨some 64, .load _ _, _, _, _, _⟩ :: _) _ _)
       refine wpList_load_row rfl 31 (.tmp 5) rfl (w.heap.size + 1) (by rfl) _ _ _ _ HLB.out Tryz.underlying31 rfl (by kernel_rfl) ?_)
    | (refine (id ?_ : wpList _ _ _ (⟨none, .store _ (.tmp 4) _, _, _, _, _⟩ :: _) _ _)
       refine wpList_store_row rfl 31 (.tmp 4) (.tmp 64) rfl w.heap.size _ (by rfl) (by rfl) 31 _ HRC.out (by kernel_rfl) (by rfl) (all_one _ (by rfl)) ?_))
  have hF := setRow_heap _ _ _ #[.int .i64 2, .int .i64 0, .int .i64 0, .int .i64 0, .int .i64 0, .int .i64 0, .int .i64 0, .int .i64 0, .int .i64 0, .int .i64 0, .int .i64 0, .int .i64 0, .int .i64 5, .int .i64 0, .slice none 0 0, .int .i64 0, .int .i64 0, .slice none 0 0, .int .i64 0, .slice none 0 0] _ _ HRC.out
  refine bodyPost_ret (v := .agg #[.int .i64 2, .int .i64 0, .int .i64 0, .int .i64 0, .int .i64 0, .int .i64 0, .int .i64 0, .int .i64 0, .int .i64 0, .int .i64 0, .int .i64 0, .int .i64 0, .int .i64 5, .int .i64 0, .slice none 0 0, .int .i64 0, .int .i64 0, .slice none 0 0, .int .i64 0, .slice none 0 0]) (results_cell_row (p := 4) (by kernel_rfl) _ _ w.heap.size _ _ _ _ (by rfl) hF Tryz.underlying31 rfl (by kernel_rfl)) rfl ?_
  exact ⟨⟨.slice none 0 0, .slice none 0 0, .slice none 0 0, onlyAk ⟨5, 0, [], 0, 0⟩ []⟩, _, _, rfl, RdsRSt_row H2.out (by omega) _, KR_row HK2.out hlt _, LnOw.nil_ ⟨rfl, rfl, rfl⟩, lineS_5⟩
set_option maxHeartbeats 8000000 in
set_option maxRecDepth 100000 in
theorem ask_6 {w0 w : World} (hG : G w0) {rb : Nat} {ws : List Wd} {ok : Bool} (hl : ∀ x ∈ ws, x.length ≤ 1000000) (hwl : ws.length ≤ 1000000) (h : RSt w0 rb ws ok w) :
    Calls Tryz.prog 55 #[.pointer (some ⟨rb, 0, none⟩), .int .i64 6] w (AskPost w0 w rb (wSnap :: ws) ok) := by
  have hmf : ∀ (fn : Fn) (first cap : Array Value) (w : World), (Instr.makeFunc fn first cap).run Tryz.prog w = .ok (.func fn first cap) w := fun _ _ _ _ => rfl
  have HG := Lib.hid hG
  have hlt := h.rd.lt
  have H0 := Lib.hid (fun (W : World) (hb : Below w.heap.size w W) => h.free hb)
  have HL := Lib.hid hl
  clear h hG hl
  go_enter Tryz.func55, Tryz.ntmps55
  go_wp2_with (first
    | (refine (id ?_ : wpList _ _ _ (⟨none, .store _ (.tmp 5) (.tmp 8), _, _, _, _⟩ :: _) _ _)
       refine wpList_store_row rfl 31 (.tmp 5) (.tmp 8) rfl (w.heap.size + 1) _ (by rfl) (by rfl) 31 _ (alloc2_new w _ _) (by kernel_rfl) (by rfl) (all_one _ (by rfl)) ?_
       generalize hW2 : World.setRow _ _ _ = W2
       have hLB : W2.heap[w.heap.size + 1]? = some (.cells #[.int .i64 2, .int .i64 0, .int .i64 0, .int .i64 0, .int .i64 0, .int .i64 0, .int .i64 0, .int .i64 0, .int .i64 0, .int .i64 0, .int .i64 0, .int .i64 0, .int .i64 6, .int .i64 0, .slice none 0 0, .int .i64 0, .int .i64 0, .slice none 0 0, .int .i64 0, .slice none 0 0] 31 (0, 0)) := by rw [← hW2]; exact setRow_heap _ _ _ _ _ _ (alloc2_new w _ _)
       have hRC : W2.heap[w.heap.size]? = some (.cells #[.int .i64 0, .int .i64 0, .int .i64 0, .int .i64 0, .int .i64 0, .int .i64 0, .int .i64 0, .int .i64 0, .int .i64 0, .int .i64 0, .int .i64 0, .int .i64 0, .int .i64 0, .int .i64 0, .slice none 0 0, .int .i64 0, .int .i64 0, .slice none 0 0, .int .i64 0, .slice none 0 0] 31 (0, 0)) := by rw [← hW2]; exact (setRow_other _ _ _ _ (by simp)).trans ((Below.heap_alloc _ _ _ (by simp)).trans (heap_alloc_new w _))
       have hb : Below w.heap.size w W2 := by rw [← hW2]; exact below_setRow (below_a2 w _ _) (Nat.le_succ _) _
       have HLB := Lib.hid hLB
       have HRC := Lib.hid hRC
       have H2 := Lib.hid (H0.out _ hb)
       have HK2 := Lib.hid (KR.of_below (rb := rb) hb (Nat.le_of_lt hlt))
       have hz2 := hb.size
       clear hb hLB hRC hW2 H0)
    | (refine (id ?_ : wpList _ _ _ (⟨some 64, .load _ _, _, _, _, _⟩ :: _) _ _)
       refine wpList_load_row rfl 31 (.tmp 5) rfl (w.heap.size + 1) (by rfl) _ _ _ _ HLB.out Tryz.underlying31 rfl (by kernel_rfl) ?_)
    | (refine (id ?_ : wpList _ _ _ (⟨none, .store _ (.tmp 4) _, _, _, _, _⟩ :: _) _ _)
       refine wpList_store_row rfl 31 (.tmp 4) (.tmp 64) rfl w.heap.size _ (by rfl) (by rfl) 31 _ HRC.out (by kernel_rfl) (by rfl) (all_one _ (by rfl)) ?_))
  have hF := setRow_heap _ _ _ #[.int .i64 2, .int .i64 0, .int .i64 0, .int .i64 0, .int .i64 0, .int .i64 0, .int .i64 0, .int .i64 0, .int .i64 0, .int .i64 0, .int .i64 0, .int .i64 0, .int .i64 6, .int .i64 0, .slice none 0 0, .int .i64 0, .int .i64 0, .slice none 0 0, .int .i64 0, .slice none 0 0] _ _ HRC.out
  refine bodyPost_ret (v := .agg #[.int .i64 2, .int .i64 0, .int .i64 0, .int .i64 0, .int .i64 0, .int .i64 0, .int .i64 0, .int .i64 0, .int .i64 0, .int .i64 0, .int .i64 0, .int .i64 0, .int .i64 6, .int .i64 0, .slice none 0 0, .int .i64 0, .int .i64 0, .slice none 0 0, .int .i64 0, .slice none 0 0]) (results_cell_row (p := 4) (by kernel_rfl) _ _ w.heap.size _ _ _ _ (by rfl) hF Tryz.underlying31 rfl (by kernel_rfl)) rfl ?_
  exact ⟨⟨.slice none 0 0, .slice none 0 0, .slice none 0 0, onlyAk ⟨6, 0, [], 0, 0⟩ []⟩, _, _, rfl, RdsRSt_row H2.out (by omega) _, KR_row HK2.out hlt _, LnOw.nil_ ⟨rfl, rfl, rfl⟩, lineS_6⟩
end Go.Proofs.YtchgfabgighbfaaGreatDoor.AskW
