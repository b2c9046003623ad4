/- Faults: what the world must hold; fault.Code. -/
import Derived.Test.YthinjoldbjcifaaDoorFltA
import Derived.Test.YthinjoldbjcifaaDoorShelf
import Derived.Lib.AppendIntMem
namespace Go.Proofs.YthinjoldbjcifaaDoor.FltC
set_option linter.unusedVariables false
open Go.RowKit Go.Sort Go.Stop Go.Extern Base FltM FltW FltX FltI FltH FltA

structure G (w : World) : Prop where
  tab : Lib.TabIs Tryd.prog w "internal/strconv.uint64pow10" .u64 Lib.pow10Tab
  et : w.cell? ⟨0, 0, none⟩ = some (.iface 94 (.agg #[.pointer (some ⟨4, 40, none⟩)]))
theorem G.below {w w' : World} (h : G w) (hb : Below w.heap.size w w') : G w' := ⟨Lib.tabBelow_of_tabIs h.tab w' hb, cell_keep hb h.et⟩
theorem below_grow (w : World) (k : Nat) (os : Array Obj) : Below w.heap.size w (grow (w.drewN k) os) := by
  refine ⟨rfl, rfl, rfl, ?_, fun i hi => ?_⟩
  · show w.heap.size ≤ (w.heap ++ os).size
    rw [Array.size_append]; omega
  · show (w.heap ++ os)[i]? = w.heap[i]?
    rw [Array.getElem?_append_left hi]
theorem Itoa_any (n : Int) (w : World) (hG : G w) (hn : Num n) :
    Calls Tryd.prog 30 #[.int .i64 n] w fun e w' => e = .returned (.string ⟨(Lib.itoa n).toArray⟩) ∧ Below w.heap.size w w' :=
  (Tryd.strconv_Itoa n hn.1 hn.2 w hG.tab).mono fun _ _ ⟨he, k, os, hw⟩ => ⟨he, by rw [hw]; exact below_grow w k os⟩

theorem As_any (g B : Nat) (old : Value) (w : World) (hG : G w) (h0 : w.cell? ⟨B, 0, none⟩ = some old) (hf : w.frozen? ⟨B, 0, none⟩ = false) :
    Calls Tryd.prog 29 #[.iface 67 (.pointer (some ⟨g, 0, none⟩)), .iface 77 (.pointer (some ⟨B, 0, none⟩))] w fun e w' =>
      e = .returned (.bool true) ∧ Below B w w' ∧ w'.cell? ⟨B, 0, none⟩ = some (.pointer (some ⟨g, 0, none⟩)) := by
  have hlt := World.block_lt_of_cell? w _ h0
  have hlt : B < w.heap.size := hlt
  refine (as_hit ⟨g, 0, none⟩ ⟨B, 0, none⟩ old w hG.et h0 hf).mono ?_
  rintro e w' ⟨rfl, rfl⟩
  obtain ⟨W1, e1⟩ : ∃ W1, w.alloc (.cells #[.pointer (some (⟨B, 0, none⟩ : Addr))] 77) = W1 := ⟨_, rfl⟩
  have k1 : Below w.heap.size w W1 := by rw [← e1]; exact below_a1 _ _
  obtain ⟨W2, e2⟩ : ∃ W2, W1.alloc (.cells #[.pointer (some ⟨4, 77, none⟩), .pointer (some ⟨w.heap.size, 0, none⟩), .int .u64 150] 86) = W2 := ⟨_, rfl⟩
  have k2 : Below W1.heap.size W1 W2 := by rw [← e2]; exact below_a1 _ _
  obtain ⟨W3, e3⟩ : ∃ W3, W2.alloc (.cells #[.pointer (some ⟨4, 77, none⟩), .pointer (some ⟨w.heap.size, 0, none⟩), .int .u64 150] 86) = W3 := ⟨_, rfl⟩
  have k3 : Below W2.heap.size W2 W3 := by rw [← e3]; exact below_a1 _ _
  obtain ⟨W4, e4⟩ : ∃ W4, W3.alloc (.cells #[.pointer (some (⟨g, 0, none⟩ : Addr))] 67) = W4 := ⟨_, rfl⟩
  have k4 : Below W3.heap.size W3 W4 := by rw [← e4]; exact below_a1 _ _
  rw [e1, e2, e3, e4]
  have k := bt k4 (bt k3 (bt k2 k1))
  exact ⟨rfl, (k.mono (Nat.le_of_lt hlt)).setCell (Nat.le_refl _) _, World.cell?_setCell_same _ _ _ (cell_keep k h0)⟩
set_option maxHeartbeats 2000000 in
set_option maxRecDepth 100000 in
theorem Code_at : ∀ (t : T) (b : Nat) (w : World), G w → At w w.heap.size b t → t.fits →
    Calls Tryd.prog 19 #[.pointer (some ⟨b, 0, none⟩)] w fun e w' => e = .returned (.int .i64 t.code) ∧ Below w.heap.size w w'
  | .leaf op at_ c, b, w, hG, h, hf => by
    obtain ⟨g, h1, h2, h3, h4, h5, h6, h7⟩ := h
    have hc : (c == 0) = false := by simpa using hf.2.2.2
    have f1 := ta_link_no
    have HG := Lib.hid hG
    clear hG hf
    go_enter Tryd.func19, Tryd.ntmps19
    go_wp2_with fail
    refine (As_any g w.heap.size (.pointer none) _ (HG.out.below (below_a1 _ _)) (by go_simp) (by go_simp)).mono ?_
    rintro e w1 ⟨rfl, hb1, ht⟩
    have hX := (below_a1 w (.cells #[.pointer none] 67)).trans hb1
    have h6 := cell_keep hX h6
    have X1 := Lib.hid hX
    clear hX hb1
    go_wp2_with fail
    go_ret
    exact ⟨rfl, X1.out⟩
  | .wrap op at_ u, b, w, hG, h, hf => by
    obtain ⟨g, b', h1, h2, h3, h4, h5, h6, h7, h8⟩ := h
    have f1 := ta_link_no
    have HG := Lib.hid hG
    have HA := Lib.hid h8
    have HF := Lib.hid hf.2.2
    clear hG hf h8
    go_enter Tryd.func19, Tryd.ntmps19
    go_wp2_with fail
    refine (As_any g w.heap.size (.pointer none) _ (HG.out.below (below_a1 _ _)) (by go_simp) (by go_simp)).mono ?_
    rintro e w1 ⟨rfl, hb1, ht⟩
    have hX := (below_a1 w (.cells #[.pointer none] 67)).trans hb1
    have h6 := cell_keep hX h6
    have h7 := cell_keep hX h7
    have X1 := Lib.hid hX
    clear hX hb1
    go_wp2_with fail
    refine (Code_at u b' _ (HG.out.below X1.out) (HA.out.up X1.out) HF.out).mono ?_
    rintro e w2 ⟨rfl, hb2⟩
    go_wp2_with fail
    go_ret
    exact ⟨rfl, bt hb2 X1.out⟩
  | .both x y, b, w, hG, h, hf => by
    obtain ⟨g, b1, b2, h1, h2, h3, h4, h5, h6, h7⟩ := h
    have f1 := ta_pair
    have HG := Lib.hid hG
    have HA := Lib.hid h6
    have HF := Lib.hid hf.1
    clear hG hf h6 h7
    go_enter Tryd.func19, Tryd.ntmps19
    go_wp2_with fail
    refine (Code_at x b1 _ HG.out HA.out HF.out).mono ?_
    rintro e w2 ⟨rfl, hb2⟩
    go_wp2_with fail
    go_ret
    exact ⟨rfl, hb2⟩
def codeO (o : Option T) : Int := match o with | none => 0 | some t => t.code
theorem Code_any (v : Value) (o : Option T) (w : World) (hG : G w) (h : Flt w w.heap.size v o) (hf : fitsO o) :
    Calls Tryd.prog 19 #[v] w fun e w' => e = .returned (.int .i64 (codeO o)) ∧ Below w.heap.size w w' := by
  cases o with
  | none =>
    rw [show v = .pointer none from h]
    go_enter Tryd.func19, Tryd.ntmps19
    go_wp2_with fail
    go_ret
    exact ⟨rfl, Below.refl _ _⟩
  | some t => obtain ⟨b, rfl, hb⟩ := h; exact Code_at t b w hG hb hf
end Go.Proofs.YthinjoldbjcifaaDoor.FltC
