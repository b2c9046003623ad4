/- shape.write, shape.Text. -/
import Derived.Test.YtmmgfelifmdnbaaDoorGlbS
import Derived.Test.YtmmgfelifmdnbaaDoorWrtM
import Derived.Test.YtmmgfelifmdnbaaDoorItrG
namespace Go.Proofs.YtmmgfelifmdnbaaDoor.WrtW
set_option linter.unusedVariables false
open Go.RowKit Go.Shelf Base SeqM ShpM ShpV ShpW ShpT ShpI ShpJ ItrD ItrW ItrK ItrF ItrG TxtM GlbS WrtM BldW

theorem bld_below {w w' : World} {B b : Nat} {l : List UInt8} (h : Bld w B b l) (hb : Below w.heap.size w w') : Bld w' B b l := by
  rcases h with ⟨hB, v, hbk, hown, hne⟩ | ⟨hB, v, hbk, hown, hne⟩
  · exact .inl ⟨hB, v, (hb.block b (Array.getElem?_eq_some_iff.1 hbk).1).trans hbk, own_below hown hb, hne⟩
  · exact .inr ⟨hB, v, (hb.block b (Array.getElem?_eq_some_iff.1 hbk).1).trans hbk, own_below hown hb, hne⟩
/-- a builder on its way: what it holds, and what is as it was -/
structure WSt (w0 Wa : World) (bb : Nat) (l : List UInt8) (W : World) : Prop where
  bld : Bld W w0.heap.size bb l
  low : Below w0.heap.size w0 W
  keep : KeepU Wa W
theorem WSt.free {w0 Wa W W' : World} {bb : Nat} {l : List UInt8} (h : WSt w0 Wa bb l W) (hb : Below W.heap.size W W') : WSt w0 Wa bb l W' := ⟨bld_below h.bld hb, bt hb h.low, h.keep.trans (KeepU.of_below hb)⟩
theorem WSt.more {w0 Wa W W' : World} {bb : Nat} {l l' : List UInt8} (h : WSt w0 Wa bb l W) (h' : WSt w0 W bb l' W') : WSt w0 Wa bb l' W' := ⟨h'.bld, h'.low, h.keep.trans h'.keep⟩
theorem wsC {w0 Wa W : World} {bb : Nat} {l : List UInt8} (s : List UInt8) (h : WSt w0 Wa bb l W) (hlen : l.length + s.length ≤ 1000000) :
    Calls Tryd.prog 39 #[.pointer (some ⟨bb, 0, none⟩), .string ⟨s.toArray⟩] W fun e w' => (∃ n, e = .returned (.tuple #[.int .i64 n, .nilIface])) ∧ WSt w0 Wa bb (l ++ s) w' :=
  (WS_any _ bb l s W h.bld hlen h.low.size).mono fun _ _ ⟨he, h1, h2, h3⟩ => ⟨he, h1, h.low.trans h2, h.keep.trans h3⟩
theorem wbC {w0 Wa W : World} {bb : Nat} {l : List UInt8} (c : UInt8) (ci : Int) (hc : ci = (c.toNat : Int)) (h : WSt w0 Wa bb l W) (hlen : l.length + 1 ≤ 1000000) :
    Calls Tryd.prog 41 #[.pointer (some ⟨bb, 0, none⟩), .int .u8 ci] W fun e w' => e = .returned .nilIface ∧ WSt w0 Wa bb (l ++ [c]) w' :=
  (WB_any _ bb l c ci hc W h.bld hlen h.low.size).mono fun _ _ ⟨he, h1, h2, h3⟩ => ⟨he, h1, h.low.trans h2, h.keep.trans h3⟩
theorem itC {w0 Wa W : World} {bb : Nat} {l : List UInt8} (n : Int) (h0 : -9223372036854775808 ≤ n) (h1 : n ≤ 9223372036854775807) (hG : G w0) (h : WSt w0 Wa bb l W) :
    Calls Tryd.prog 40 #[.int .i64 n] W fun e w' => e = .returned (.string ⟨(Lib.itoa n).toArray⟩) ∧ WSt w0 Wa bb l w' :=
  (Itoa_any n W (hG.below h.low) h0 h1).mono fun _ _ ⟨he, hb⟩ => ⟨he, h.free hb⟩
theorem node_box {w : World} {T N : Array Value} {t t' : TypeId} : ((w.alloc (.cells T t)).alloc (.cells N t')).heap[w.heap.size]? = some (.cells T t (0, 0)) ∧ ((w.alloc (.cells T t)).alloc (.cells N t')).heap[w.heap.size + 1]? = some (.cells N t' (0, 0)) := by
  refine ⟨(Below.heap_alloc _ _ _ (by simp)).trans (heap_alloc_new w _), ?_⟩
  have := heap_alloc_new (w.alloc (.cells T t)) (.cells N t')
  simpa using this
def LpRel (w0 Wa : World) (bb : Nat) (l0 : List UInt8) (c : List Int) (i : Value) (wr : World) : Prop := ∃ k : Nat, k ≤ c.length ∧ i = .int .i64 k ∧ WSt w0 Wa bb (l0 ++ coefT (c.take k)) wr
theorem coef_pre (c : List Int) (k : Nat) : (coefT (c.take k)).length ≤ (coefT c).length := by
  have : coefT c = coefT (c.take k) ++ coefT (c.drop k) := by unfold coefT; rw [← List.flatMap_append, List.take_append_drop]
  rw [this, List.length_append]; omega
set_option maxHeartbeats 4000000 in
set_option maxRecDepth 100000 in
theorem write_any {w0 : World} {lo : Nat} {dim : Int} {nv : Value} {ls : List Nd} {bb : Nat} (h : Nds w0 lo w0.heap.size nv ls) (hG : G w0) : ∀ (b : B) (i : Nat) (iv : Int) (w : World) (lst : List UInt8), iv = (i : Int) → At ls i b → b.ok dim → b.size ≤ 64 → Below w0.heap.size w0 w → Bld w w0.heap.size bb lst → lst.length + (txt b).length ≤ 1000000 →
    Calls Tryd.prog 42 #[.pointer (some ⟨bb, 0, none⟩), .agg #[.int .i64 dim, nv], .int .i64 iv] w fun e w' => e = .returned (.tuple #[]) ∧ WSt w0 w bb (lst ++ txt b) w' := by
  intro b
  induction b with
  | leaf sz =>
    rintro i iv w lst rfl hat hok hsz hlow hbl hlen
    have hok : 1 ≤ sz := hok
    have hsz : sz ≤ 64 := hsz
    have h0 := at_leaf.1 hat
    obtain ⟨A, cap, rfl, hc1, hc2, _⟩ := h.form
    obtain ⟨n, hn⟩ : ∃ n, ls.length = n := ⟨_, rfl⟩
    have hil := (List.getElem?_eq_some_iff.1 h0).1
    have HG := Lib.hid hG
    have hlz := hlow.size
    obtain ⟨ad, cv, e1, hbk, d0, d1, d2, d3, d4, hcv⟩ := (h.below hlow).get h0
    subst e1
    have HCV := Lib.hid (by obtain ⟨ad', cv', e1', _, c0', _, _, _, _, hcv'⟩ := h.get h0; obtain rfl := Option.some.inj e1'; rw [show w.cell? (ad.add (i * 5)) = w0.cell? (ad.add (i * 5)) from hlow.cell (by rw [show (ad.add (i * 5)).block = ad.block by unfold Addr.add; split <;> rfl]; exact hbk), c0'] at d0; obtain rfl := Option.some.inj d0; exact hcv' : Seq 1 inC w0 lo w0.heap.size cv ([] : List Int))
    obtain ⟨AC, cc, rfl, _, _, _, _⟩ := id HCV.out
    have l1 : ad.block < w.heap.size := Nat.lt_of_lt_of_le hbk hlz
    have l2 : (ad.add (i * 5)).block < w.heap.size := by rw [show (ad.add (i * 5)).block = ad.block by unfold Addr.add; split <;> rfl]; exact l1
    dsimp only at d0 d1 d2 d3 d4
    rw [hn] at hil hc1  ⊢
    have HKT := Lib.hid (node_box (w := w) (T := #[.int .i64 dim, .slice (some ad) n cap]) (N := #[.slice AC 0 cc, .int .i64 0, .int .i64 0, .int .i64 0, .int .i64 sz]) (t := 24) (t' := 39)).1
    have HKN := Lib.hid (node_box (w := w) (T := #[.int .i64 dim, .slice (some ad) n cap]) (N := #[.slice AC 0 cc, .int .i64 0, .int .i64 0, .int .i64 0, .int .i64 sz]) (t := 24) (t' := 39)).2
    have HS := Lib.hid (show WSt w0 ((w.alloc (.cells #[.int .i64 dim, .slice (some ad) n cap] 24)).alloc (.cells #[.slice AC 0 cc, .int .i64 0, .int .i64 0, .int .i64 0, .int .i64 sz] 39)) bb lst ((w.alloc (.cells #[.int .i64 dim, .slice (some ad) n cap] 24)).alloc (.cells #[.slice AC 0 cc, .int .i64 0, .int .i64 0, .int .i64 0, .int .i64 sz] 39)) from ⟨bld_below hbl (below_a2 _ _ _), bt (below_a2 _ _ _) hlow, KeepU.refl _⟩)
    have HW := Lib.hid (KeepU.of_below (below_a2 w (.cells #[.int .i64 dim, .slice (some ad) n cap] 24) (.cells #[.slice AC 0 cc, .int .i64 0, .int .i64 0, .int .i64 0, .int .i64 sz] 39)))
    have HT := Lib.hid hlen
    simp only [txt] at hlen
    clear hat hlow hbl
    go_enter Tryd.func42, Tryd.ntmps42
    go_wp2_with fail
    obtain ⟨Wa, hWa⟩ : ∃ Wa, (w.alloc (.cells #[.int .i64 dim, .slice (some ad) n cap] 24)).alloc (.cells #[.slice AC 0 cc, .int .i64 0, .int .i64 0, .int .i64 0, .int .i64 sz] 39) = Wa := ⟨_, rfl⟩
    rw [hWa] at HKT HKN HS HW ⊢
    have lz0 : w.heap.size + 1 < Wa.heap.size := (Array.getElem?_eq_some_iff.1 HKN.out).1
    clear hWa d0 d1 d2 d3 d4
    have hS := HS.out
    obtain ⟨t0, t1⟩ := Boxed2.cells (hS.keep _ _ _ _ HKT.out (by decide) (by decide))
    have nX := hS.keep _ _ _ _ HKN.out (by decide) (by decide)
    have n0 := cell_heap nX (o := 0) rfl
    have n1 := cell_heap nX (o := 1) rfl
    have n2 := cell_heap nX (o := 2) rfl
    have n3 := cell_heap nX (o := 3) rfl
    have n4 := cell_heap nX (o := 4) rfl
    have lz := (Array.getElem?_eq_some_iff.1 nX).1
    clear hS
    refine (itC sz (by omega) (by omega) HG.out HS.out).mono ?_
    rintro e W1 ⟨rfl, h1⟩
    have H1 := Lib.hid h1
    clear t0 t1 n0 n1 n2 n3 n4 nX lz
    obtain ⟨t0, t1⟩ := Boxed2.cells (h1.keep _ _ _ _ HKT.out (by decide) (by decide))
    have nX := h1.keep _ _ _ _ HKN.out (by decide) (by decide)
    have n0 := cell_heap nX (o := 0) rfl
    have n1 := cell_heap nX (o := 1) rfl
    have n2 := cell_heap nX (o := 2) rfl
    have n3 := cell_heap nX (o := 3) rfl
    have n4 := cell_heap nX (o := 4) rfl
    have lz := (Array.getElem?_eq_some_iff.1 nX).1
    clear h1
    go_wp2_with fail
    refine (wsC _ H1.out (by (try simp only [List.length_append, List.length_cons, List.length_nil]); omega)).mono ?_
    rintro e W2 ⟨⟨_, rfl⟩, h2⟩
    have H2 := Lib.hid h2
    clear t0 t1 n0 n1 n2 n3 n4 nX lz
    obtain ⟨t0, t1⟩ := Boxed2.cells (h2.keep _ _ _ _ HKT.out (by decide) (by decide))
    have nX := h2.keep _ _ _ _ HKN.out (by decide) (by decide)
    have n0 := cell_heap nX (o := 0) rfl
    have n1 := cell_heap nX (o := 1) rfl
    have n2 := cell_heap nX (o := 2) rfl
    have n3 := cell_heap nX (o := 3) rfl
    have n4 := cell_heap nX (o := 4) rfl
    have lz := (Array.getElem?_eq_some_iff.1 nX).1
    clear h2
    go_wp2_with fail
    (try simp only [Exit.inBlock, Exit.then])
    refine bodyPost_ret (results_none rfl _ _ _) rfl ?_
    have e : lst ++ txt (B.leaf sz) = lst ++ Lib.itoa sz := by simp [txt]
    rw [e]
    exact ⟨rfl, ⟨H2.out.bld, H2.out.low, HW.out.trans H2.out.keep⟩⟩
  | fork c a l r IHl IHr =>
    rintro i iv w lst rfl hat hok hsz hlow hbl hlen
    obtain ⟨h0, hL, hR⟩ := at_fork.1 hat
    obtain ⟨⟨⟨_, _, _, hc4, _⟩, ha1, ha2⟩, hokl, hokr⟩ := id hok
    have pl := size_pos hokl
    have pr := size_pos hokr
    simp only [B.size] at hsz
    have HIL := Lib.hid (fun W l' x1 x2 x3 => IHl (i + 1) ((i : Int) + 1) W l' (by omega) hL hokl (by omega) x1 x2 x3)
    have HIR := Lib.hid (fun W l' x1 x2 x3 => IHr (i + 1 + l.count) ((i : Int) + 1 + (l.count : Int)) W l' (by omega) hR hokr (by omega) x1 x2 x3)
    clear IHl IHr
    obtain ⟨A, cap, rfl, hc1, hc2, _⟩ := h.form
    obtain ⟨n, hn⟩ : ∃ n, ls.length = n := ⟨_, rfl⟩
    have hil := (List.getElem?_eq_some_iff.1 h0).1
    have HG := Lib.hid hG
    have hlz := hlow.size
    obtain ⟨ad, cv, e1, hbk, d0, d1, d2, d3, d4, hcv⟩ := (h.below hlow).get h0
    subst e1
    have HCV := Lib.hid (by obtain ⟨ad', cv', e1', _, c0', _, _, _, _, hcv'⟩ := h.get h0; obtain rfl := Option.some.inj e1'; rw [show w.cell? (ad.add (i * 5)) = w0.cell? (ad.add (i * 5)) from hlow.cell (by rw [show (ad.add (i * 5)).block = ad.block by unfold Addr.add; split <;> rfl]; exact hbk), c0'] at d0; obtain rfl := Option.some.inj d0; exact hcv' : Seq 1 inC w0 lo w0.heap.size cv c)
    obtain ⟨AC, cc, rfl, _, _, _, _⟩ := id HCV.out
    have l1 : ad.block < w.heap.size := Nat.lt_of_lt_of_le hbk hlz
    have l2 : (ad.add (i * 5)).block < w.heap.size := by rw [show (ad.add (i * 5)).block = ad.block by unfold Addr.add; split <;> rfl]; exact l1
    dsimp only at d0 d1 d2 d3 d4
    rw [hn] at hil hc1 HIL HIR ⊢
    have HKT := Lib.hid (node_box (w := w) (T := #[.int .i64 dim, .slice (some ad) n cap]) (N := #[.slice AC c.length cc, .int .i64 a, .int .i64 ((i : Int) + 1), .int .i64 ((i : Int) + 1 + (l.count : Int)), .int .i64 (l.size + r.size)]) (t := 24) (t' := 39)).1
    have HKN := Lib.hid (node_box (w := w) (T := #[.int .i64 dim, .slice (some ad) n cap]) (N := #[.slice AC c.length cc, .int .i64 a, .int .i64 ((i : Int) + 1), .int .i64 ((i : Int) + 1 + (l.count : Int)), .int .i64 (l.size + r.size)]) (t := 24) (t' := 39)).2
    have HS := Lib.hid (show WSt w0 ((w.alloc (.cells #[.int .i64 dim, .slice (some ad) n cap] 24)).alloc (.cells #[.slice AC c.length cc, .int .i64 a, .int .i64 ((i : Int) + 1), .int .i64 ((i : Int) + 1 + (l.count : Int)), .int .i64 (l.size + r.size)] 39)) bb lst ((w.alloc (.cells #[.int .i64 dim, .slice (some ad) n cap] 24)).alloc (.cells #[.slice AC c.length cc, .int .i64 a, .int .i64 ((i : Int) + 1), .int .i64 ((i : Int) + 1 + (l.count : Int)), .int .i64 (l.size + r.size)] 39)) from ⟨bld_below hbl (below_a2 _ _ _), bt (below_a2 _ _ _) hlow, KeepU.refl _⟩)
    have HW := Lib.hid (KeepU.of_below (below_a2 w (.cells #[.int .i64 dim, .slice (some ad) n cap] 24) (.cells #[.slice AC c.length cc, .int .i64 a, .int .i64 ((i : Int) + 1), .int .i64 ((i : Int) + 1 + (l.count : Int)), .int .i64 (l.size + r.size)] 39)))
    obtain ⟨lc, hlc⟩ : ∃ lc, l.count = lc := ⟨_, rfl⟩
    rw [hlc] at d3 HKT HKN HS HW HIR
    simp only [Int.natCast_add, Int.natCast_one] at d2 d3
    have hlb : (((i : Int) + 1) == 0) = false := by rw [beq_eq_false_iff_ne]; omega
    simp only [txt, List.length_cons, List.length_append, List.length_nil] at hlen
    have HC4 := Lib.hid hc4
    clear hat hlow hbl hc4 hL hR hok hlc
    go_enter Tryd.func42, Tryd.ntmps42
    go_wp2_with fail
    obtain ⟨Wa, hWa⟩ : ∃ Wa, (w.alloc (.cells #[.int .i64 dim, .slice (some ad) n cap] 24)).alloc (.cells #[.slice AC c.length cc, .int .i64 a, .int .i64 ((i : Int) + 1), .int .i64 ((i : Int) + 1 + (lc : Int)), .int .i64 (l.size + r.size)] 39) = Wa := ⟨_, rfl⟩
    rw [hWa] at HKT HKN HS HW ⊢
    have lz0 : w.heap.size + 1 < Wa.heap.size := (Array.getElem?_eq_some_iff.1 HKN.out).1
    clear hWa d0 d1 d2 d3 d4
    have hS := HS.out
    obtain ⟨t0, t1⟩ := Boxed2.cells (hS.keep _ _ _ _ HKT.out (by decide) (by decide))
    have nX := hS.keep _ _ _ _ HKN.out (by decide) (by decide)
    have n0 := cell_heap nX (o := 0) rfl
    have n1 := cell_heap nX (o := 1) rfl
    have n2 := cell_heap nX (o := 2) rfl
    have n3 := cell_heap nX (o := 3) rfl
    have n4 := cell_heap nX (o := 4) rfl
    have lz := (Array.getElem?_eq_some_iff.1 nX).1
    clear hS
    refine (wbC 40 _ rfl HS.out (by (try simp only [List.length_append, List.length_cons, List.length_nil]); omega)).mono ?_
    rintro e W1 ⟨rfl, h1⟩
    have H1 := Lib.hid h1
    clear t0 t1 n0 n1 n2 n3 n4 nX lz
    obtain ⟨t0, t1⟩ := Boxed2.cells (h1.keep _ _ _ _ HKT.out (by decide) (by decide))
    have nX := h1.keep _ _ _ _ HKN.out (by decide) (by decide)
    have n0 := cell_heap nX (o := 0) rfl
    have n1 := cell_heap nX (o := 1) rfl
    have n2 := cell_heap nX (o := 2) rfl
    have n3 := cell_heap nX (o := 3) rfl
    have n4 := cell_heap nX (o := 4) rfl
    have lz := (Array.getElem?_eq_some_iff.1 nX).1
    clear h1
    obtain ⟨cn, hcn⟩ : ∃ cn, c.length = cn := ⟨_, rfl⟩
    have HCN := Lib.hid hcn
    have HX := Lib.hid (fun (W : World) (hb : Below w0.heap.size w0 W) (k : Nat) (hk : k < cn) => by
      obtain ⟨A', cap', e', _, _, hr, _⟩ := HCV.out.below hb
      cases e'
      exact rdI hr (i := k) (by rw [hcn]; exact hk))
    have hcc : c.length ≤ cc := by obtain ⟨A', cap', e', h1, _⟩ := HCV.out; cases e'; exact h1
    have hcc2 : cc ≤ 9223372036854775807 := by obtain ⟨A', cap', e', _, h1, _⟩ := HCV.out; cases e'; unfold maxLen at h1; exact h1
    rw [hcn] at n0 HKN nX hcc ⊢
    clear hcn
    go_wp2_with fail
    have HL0 := Lib.hid (show LpRel w0 Wa bb (lst ++ [40]) c (.int .i64 0) W1 from ⟨0, Nat.zero_le _, rfl, by simpa [coefT] using H1.out⟩)
    go_loopw [28] (fun i wr => LpRel w0 Wa bb (lst ++ [40]) c i wr) (fun i _ => cn - (intOf i).toNat)
    case atStart => exact HL0.out
    case round =>
      obtain ⟨k, hk, rfl, hS⟩ := hrel
      have HS2 := Lib.hid hS
      rw [HCN.out] at hk
      have hcp := coef_pre c k
      clear t0 t1 n0 n1 n2 n3 n4 nX lz
      obtain ⟨t0, t1⟩ := Boxed2.cells (hS.keep _ _ _ _ HKT.out (by decide) (by decide))
      have nX := hS.keep _ _ _ _ HKN.out (by decide) (by decide)
      have n0 := cell_heap nX (o := 0) rfl
      have n1 := cell_heap nX (o := 1) rfl
      have n2 := cell_heap nX (o := 2) rfl
      have n3 := cell_heap nX (o := 3) rfl
      have n4 := cell_heap nX (o := 4) rfl
      have lz := (Array.getElem?_eq_some_iff.1 nX).1
      
      by_cases hkn : k = cn
      · subst hkn
        have HE := Lib.hid (show WSt w0 Wa bb (lst ++ [40] ++ coefT c) wr from by rw [List.take_of_length_le (by rw [HCN.out]; exact Nat.le_refl _)] at hS; exact hS)
        clear hS
        go_wp2_with fail
        refine (wsC [60, 32] HE.out (by (try simp only [List.length_append, List.length_cons, List.length_nil]); omega)).mono ?_
        rintro e W21 ⟨⟨_, rfl⟩, h21⟩
        have H21 := Lib.hid h21
        clear t0 t1 n0 n1 n2 n3 n4 nX lz
        obtain ⟨t0, t1⟩ := Boxed2.cells (h21.keep _ _ _ _ HKT.out (by decide) (by decide))
        have nX := h21.keep _ _ _ _ HKN.out (by decide) (by decide)
        have n0 := cell_heap nX (o := 0) rfl
        have n1 := cell_heap nX (o := 1) rfl
        have n2 := cell_heap nX (o := 2) rfl
        have n3 := cell_heap nX (o := 3) rfl
        have n4 := cell_heap nX (o := 4) rfl
        have lz := (Array.getElem?_eq_some_iff.1 nX).1
        clear h21
        go_wp2_with fail
        refine (itC a (by omega) (by omega) HG.out H21.out).mono ?_
        rintro e W22 ⟨rfl, h22⟩
        have H22 := Lib.hid h22
        clear t0 t1 n0 n1 n2 n3 n4 nX lz
        obtain ⟨t0, t1⟩ := Boxed2.cells (h22.keep _ _ _ _ HKT.out (by decide) (by decide))
        have nX := h22.keep _ _ _ _ HKN.out (by decide) (by decide)
        have n0 := cell_heap nX (o := 0) rfl
        have n1 := cell_heap nX (o := 1) rfl
        have n2 := cell_heap nX (o := 2) rfl
        have n3 := cell_heap nX (o := 3) rfl
        have n4 := cell_heap nX (o := 4) rfl
        have lz := (Array.getElem?_eq_some_iff.1 nX).1
        clear h22
        go_wp2_with fail
        refine (wsC _ H22.out (by (try simp only [List.length_append, List.length_cons, List.length_nil]); omega)).mono ?_
        rintro e W23 ⟨⟨_, rfl⟩, h23⟩
        have H23 := Lib.hid h23
        clear t0 t1 n0 n1 n2 n3 n4 nX lz
        obtain ⟨t0, t1⟩ := Boxed2.cells (h23.keep _ _ _ _ HKT.out (by decide) (by decide))
        have nX := h23.keep _ _ _ _ HKN.out (by decide) (by decide)
        have n0 := cell_heap nX (o := 0) rfl
        have n1 := cell_heap nX (o := 1) rfl
        have n2 := cell_heap nX (o := 2) rfl
        have n3 := cell_heap nX (o := 3) rfl
        have n4 := cell_heap nX (o := 4) rfl
        have lz := (Array.getElem?_eq_some_iff.1 nX).1
        clear h23
        go_wp2_with fail
        refine (wbC 32 _ rfl H23.out (by (try simp only [List.length_append, List.length_cons, List.length_nil]); omega)).mono ?_
        rintro e W24 ⟨rfl, h24⟩
        have H24 := Lib.hid h24
        clear t0 t1 n0 n1 n2 n3 n4 nX lz
        obtain ⟨t0, t1⟩ := Boxed2.cells (h24.keep _ _ _ _ HKT.out (by decide) (by decide))
        have nX := h24.keep _ _ _ _ HKN.out (by decide) (by decide)
        have n0 := cell_heap nX (o := 0) rfl
        have n1 := cell_heap nX (o := 1) rfl
        have n2 := cell_heap nX (o := 2) rfl
        have n3 := cell_heap nX (o := 3) rfl
        have n4 := cell_heap nX (o := 4) rfl
        have lz := (Array.getElem?_eq_some_iff.1 nX).1
        clear h24
        go_wp2_with fail
        refine (HIL.out W24 _ H24.out.low H24.out.bld (by (try simp only [List.length_append, List.length_cons, List.length_nil]); omega)).mono ?_
        rintro e W25 ⟨rfl, h25⟩
        replace h25 := H24.out.more h25
        have H25 := Lib.hid h25
        clear t0 t1 n0 n1 n2 n3 n4 nX lz
        obtain ⟨t0, t1⟩ := Boxed2.cells (h25.keep _ _ _ _ HKT.out (by decide) (by decide))
        have nX := h25.keep _ _ _ _ HKN.out (by decide) (by decide)
        have n0 := cell_heap nX (o := 0) rfl
        have n1 := cell_heap nX (o := 1) rfl
        have n2 := cell_heap nX (o := 2) rfl
        have n3 := cell_heap nX (o := 3) rfl
        have n4 := cell_heap nX (o := 4) rfl
        have lz := (Array.getElem?_eq_some_iff.1 nX).1
        clear h25
        go_wp2_with fail
        refine (wbC 32 _ rfl H25.out (by (try simp only [List.length_append, List.length_cons, List.length_nil]); omega)).mono ?_
        rintro e W26 ⟨rfl, h26⟩
        have H26 := Lib.hid h26
        clear t0 t1 n0 n1 n2 n3 n4 nX lz
        obtain ⟨t0, t1⟩ := Boxed2.cells (h26.keep _ _ _ _ HKT.out (by decide) (by decide))
        have nX := h26.keep _ _ _ _ HKN.out (by decide) (by decide)
        have n0 := cell_heap nX (o := 0) rfl
        have n1 := cell_heap nX (o := 1) rfl
        have n2 := cell_heap nX (o := 2) rfl
        have n3 := cell_heap nX (o := 3) rfl
        have n4 := cell_heap nX (o := 4) rfl
        have lz := (Array.getElem?_eq_some_iff.1 nX).1
        clear h26
        go_wp2_with fail
        refine (HIR.out W26 _ H26.out.low H26.out.bld (by (try simp only [List.length_append, List.length_cons, List.length_nil]); omega)).mono ?_
        rintro e W27 ⟨rfl, h27⟩
        replace h27 := H26.out.more h27
        have H27 := Lib.hid h27
        clear t0 t1 n0 n1 n2 n3 n4 nX lz
        obtain ⟨t0, t1⟩ := Boxed2.cells (h27.keep _ _ _ _ HKT.out (by decide) (by decide))
        have nX := h27.keep _ _ _ _ HKN.out (by decide) (by decide)
        have n0 := cell_heap nX (o := 0) rfl
        have n1 := cell_heap nX (o := 1) rfl
        have n2 := cell_heap nX (o := 2) rfl
        have n3 := cell_heap nX (o := 3) rfl
        have n4 := cell_heap nX (o := 4) rfl
        have lz := (Array.getElem?_eq_some_iff.1 nX).1
        clear h27
        go_wp2_with fail
        refine (wbC 41 _ rfl H27.out (by (try simp only [List.length_append, List.length_cons, List.length_nil]); omega)).mono ?_
        rintro e W28 ⟨rfl, h28⟩
        have H28 := Lib.hid h28
        clear t0 t1 n0 n1 n2 n3 n4 nX lz
        obtain ⟨t0, t1⟩ := Boxed2.cells (h28.keep _ _ _ _ HKT.out (by decide) (by decide))
        have nX := h28.keep _ _ _ _ HKN.out (by decide) (by decide)
        have n0 := cell_heap nX (o := 0) rfl
        have n1 := cell_heap nX (o := 1) rfl
        have n2 := cell_heap nX (o := 2) rfl
        have n3 := cell_heap nX (o := 3) rfl
        have n4 := cell_heap nX (o := 4) rfl
        have lz := (Array.getElem?_eq_some_iff.1 nX).1
        clear h28
        go_wp2_with fail
        go_end0
        have e : lst ++ txt (B.fork c a l r) = lst ++ [40] ++ coefT c ++ [60, 32] ++ Lib.itoa a ++ [32] ++ txt l ++ [32] ++ txt r ++ [41] := by simp [txt]
        rw [e]
        exact ⟨rfl, ⟨H28.out.bld, H28.out.low, HW.out.trans H28.out.keep⟩⟩
      · obtain ⟨cad, x, rfl, _, hcb, hx, c0⟩ := HX.out wr hS.low k (by omega)
        have hxr := HC4.out x (List.mem_of_getElem? hx)
        have HN := Lib.hid (coefT_next hx)
        have hcp2 := coef_pre c (k + 1)
        have hcl := congrArg List.length HN.out
        simp only [List.length_append, List.length_cons, List.length_nil] at hcl
        clear hS hx
        go_wp2_with fail
        refine (itC x (by omega) (by omega) HG.out HS2.out).mono ?_
        rintro e W11 ⟨rfl, h11⟩
        have H11 := Lib.hid h11
        clear t0 t1 n0 n1 n2 n3 n4 nX lz
        obtain ⟨t0, t1⟩ := Boxed2.cells (h11.keep _ _ _ _ HKT.out (by decide) (by decide))
        have nX := h11.keep _ _ _ _ HKN.out (by decide) (by decide)
        have n0 := cell_heap nX (o := 0) rfl
        have n1 := cell_heap nX (o := 1) rfl
        have n2 := cell_heap nX (o := 2) rfl
        have n3 := cell_heap nX (o := 3) rfl
        have n4 := cell_heap nX (o := 4) rfl
        have lz := (Array.getElem?_eq_some_iff.1 nX).1
        clear h11
        go_wp2_with fail
        refine (wsC _ H11.out (by (try simp only [List.length_append, List.length_cons, List.length_nil]); omega)).mono ?_
        rintro e W12 ⟨⟨_, rfl⟩, h12⟩
        have H12 := Lib.hid h12
        clear t0 t1 n0 n1 n2 n3 n4 nX lz
        obtain ⟨t0, t1⟩ := Boxed2.cells (h12.keep _ _ _ _ HKT.out (by decide) (by decide))
        have nX := h12.keep _ _ _ _ HKN.out (by decide) (by decide)
        have n0 := cell_heap nX (o := 0) rfl
        have n1 := cell_heap nX (o := 1) rfl
        have n2 := cell_heap nX (o := 2) rfl
        have n3 := cell_heap nX (o := 3) rfl
        have n4 := cell_heap nX (o := 4) rfl
        have lz := (Array.getElem?_eq_some_iff.1 nX).1
        clear h12
        go_wp2_with fail
        refine (wbC 32 _ rfl H12.out (by (try simp only [List.length_append, List.length_cons, List.length_nil]); omega)).mono ?_
        rintro e W13 ⟨rfl, h13⟩
        have H13 := Lib.hid h13
        clear t0 t1 n0 n1 n2 n3 n4 nX lz
        obtain ⟨t0, t1⟩ := Boxed2.cells (h13.keep _ _ _ _ HKT.out (by decide) (by decide))
        have nX := h13.keep _ _ _ _ HKN.out (by decide) (by decide)
        have n0 := cell_heap nX (o := 0) rfl
        have n1 := cell_heap nX (o := 1) rfl
        have n2 := cell_heap nX (o := 2) rfl
        have n3 := cell_heap nX (o := 3) rfl
        have n4 := cell_heap nX (o := 4) rfl
        have lz := (Array.getElem?_eq_some_iff.1 nX).1
        clear h13
        go_wp2_with fail
        exact ⟨⟨k + 1, by rw [HCN.out]; omega, by go_num, by have h9 := H13.out; rw [HN.out]; simpa [List.append_assoc] using h9⟩, by simp [intOf]; omega⟩
end Go.Proofs.YtmmgfelifmdnbaaDoor.WrtW
