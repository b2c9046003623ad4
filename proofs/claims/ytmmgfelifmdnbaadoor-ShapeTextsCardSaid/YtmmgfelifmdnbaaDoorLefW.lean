/- tree.Leaf: where a vector comes out. -/
import Derived.Test.YtmmgfelifmdnbaaDoorLefM
import Derived.Test.YtmmgfelifmdnbaaDoorItrG
namespace Go.Proofs.YtmmgfelifmdnbaaDoor.LefW
set_option linter.unusedVariables false
open Go.BigFrame Go.RowKit Go.Shelf Go.WideElems Base SeqM ShpM ShpV ShpW ShpD ShpT ShpI ShpJ ItrD ItrW ItrK ItrF ItrG LefM

theorem ret_leaf {a b c : Int} {d : Int} (h : a = b) : ∃ q : Int, Ending.returned (.tuple #[.int .i64 a, .int .i64 d, .int .i64 c]) = .returned (.tuple #[.int .i64 b, .int .i64 q, .int .i64 c]) := ⟨d, by rw [h]⟩
def LfRel (dim : Int) (ls : List Nd) (nv : Value) (x : List Int) (L : Nat) (w : World) (i d : Value) (wr : World) : Prop :=
  ∃ (j : Nat) (b : B) (k : Nat), i = .int .i64 j ∧ d = .int .i64 k ∧ At ls j b ∧ b.ok dim ∧ leafOf b j x = L ∧ k + b.high ≤ 6 ∧ Below w.heap.size w wr ∧ Boxed2 wr w.heap.size dim nv
set_option maxHeartbeats 1000000 in
set_option maxRecDepth 100000 in
theorem Leaf_in (nv xv : Value) (ls : List Nd) (x : List Int) (dim : Int) (lo lo' : Nat) (w : World) (h : Nds w lo w.heap.size nv ls) (h' : Seq 1 inC w lo' w.heap.size xv x) (hT : IsT dim ls) (b : B) (hat : At ls 0 b) (hok : b.ok dim) (hh : b.high ≤ 6) (hv : vecB x dim = true) :
    Calls Tryd.prog 33 #[.agg #[.int .i64 dim, nv], xv] w fun e w' => (∃ d : Int, e = .returned (.tuple #[.int .i64 (leafOf b 0 x), .int .i64 d, .int .i64 0])) ∧ Below w.heap.size w w' := by
  have HS := Lib.hid h
  have HI := Lib.hid (fun (W : World) (hb : Below w.heap.size w W) => TIs_any nv ls dim lo W (h.up hb))
  have HV := Lib.hid (fun (W : World) (hb : Below w.heap.size w W) => VIs_any xv x dim lo' w.heap.size W (h'.below hb))
  have HL := Lib.hid (fun (W : World) (cv : Value) (c : List Int) (a : Int) (hb : Below w.heap.size w W) (hc : Seq 1 inC W lo W.heap.size cv c) => Left_any cv xv c x a lo lo' W hc (h'.up hb))
  obtain ⟨A, cap, rfl, hc1, hc2, _⟩ := h.form
  obtain ⟨n, hn⟩ : ∃ n, ls.length = n := ⟨_, rfl⟩
  have hT' := isTB_true.2 hT
  rw [hT'] at HI
  rw [hv] at HV
  rw [hn] at HI HS hc1 ⊢
  obtain ⟨L, hL⟩ : ∃ L, leafOf b 0 x = L := ⟨_, rfl⟩
  rw [hL]
  have H0 := Lib.hid (fun W (hb : Below w.heap.size w W) (hbx : Boxed2 W w.heap.size dim (.slice A n cap)) => show LfRel dim ls (.slice A n cap) x L w (.int .i64 0) (.int .i64 0) W from ⟨0, b, 0, rfl, rfl, hat, hok, hL, by omega, hb, hbx⟩)
  clear hat hok hh hL hT' h h'
  go_enter Tryd.func33, Tryd.ntmps33
  go_wp2_with fail
  refine (HI.out _ (below_a1 _ _)).mono ?_
  rintro e w1 ⟨rfl, hb1⟩
  have B1 := bt hb1 (below_a1 w _)
  have hbx : Boxed2 w1 w.heap.size dim (.slice A n cap) := (hb1.block _ (by simp)).trans (heap_alloc_new w _)
  have HB1 := Lib.hid B1
  have HX1 := Lib.hid hbx
  obtain ⟨t0, t1⟩ := hbx.cells
  clear hb1 B1 hbx
  go_wp2_with fail
  refine (HV.out _ HB1.out).mono ?_
  rintro e w2 ⟨rfl, rfl⟩
  go_wp2_with fail
  have H0' := Lib.hid (H0.out w1 HB1.out HX1.out)
  clear t0 t1
  go_loopw [7, 8] (fun i d wr => LfRel dim ls (.slice A n cap) x L w i d wr) (fun _ d _ => 7 - (intOf d).toNat)
  case atStart => exact H0'.out
  case round =>
    obtain ⟨j, b, k, rfl, rfl, hat, hok, hL, hk, hb, hbx⟩ := hrel
    have HB := Lib.hid hb
    have HX := Lib.hid hbx
    obtain ⟨t0, t1⟩ := hbx.cells
    have hzw : w.heap.size < wr.heap.size := (Array.getElem?_eq_some_iff.1 hbx).1
    have hjl := at_le hat
    have hcp := count_pos b
    rw [hn] at hjl
    cases b with
    | leaf m =>
      have h0 := at_leaf.1 hat
      obtain ⟨ad, cv, e1, hbk, d0, d1, d2, d3, d4, hcv⟩ := (HS.out.below hb).get h0
      subst e1
      have HLL := Lib.hid hL
      clear hat hok hL hb hbx hcv d0 d1 d3 d4
      go_wp2_with fail
      go_ret3
      exact ⟨ret_leaf (by rw [← HLL.out]; rfl), HB.out⟩
    | fork c a p q =>
      obtain ⟨h0, hp, hq⟩ := at_fork.1 hat
      obtain ⟨ad, cv, e1, hbk, d0, d1, d2, d3, d4, hcv⟩ := (HS.out.below hb).get h0
      subst e1
      obtain ⟨AC, cc, rfl, _, _, _, _⟩ := id hcv
      have HCV := Lib.hid hcv
      obtain ⟨cn, hcn⟩ : ∃ cn, (⟨c, a, ((j + 1 : Nat) : Int), ((j + 1 + p.count : Nat) : Int), p.size + q.size⟩ : Nd).coef.length = cn := ⟨_, rfl⟩
      rw [hcn] at d0 HCV
      have l1 : ad.block < wr.heap.size := by have := hb.size; omega
      have hpos : decide ((0 : Int) < ((j + 1 : Nat) : Int)) = true := decide_eq_true (by omega)
      dsimp only at d1 d2 d3 d4
      have HP := Lib.hid hp
      have HQ := Lib.hid hq
      have HOK := Lib.hid hok
      have HLL := Lib.hid hL
      simp only [B.high] at hk
      clear hat hok hL hb hbx hcv hp hq
      go_wp2_with fail
      refine (HL.out _ _ c a ?B ?S).mono ?_
      case B => exact HB.out.alloc HB.out.size _
      case S => exact (HCV.out.below ((below_a1 wr _).mono HB.out.size)).more (Nat.le_refl _) (by have := HB.out.size; simp; omega)
      rintro e w3 ⟨rfl, hb3⟩
      have hz3 := hb3.size
      simp only [World.size_alloc] at hz3
      have HX3 := Lib.hid ((hb3.block _ (by simp; omega)).trans ((Below.heap_alloc wr _ _ hzw).trans HX.out))
      have HB3 := Lib.hid (bt (bt hb3 (below_a1 _ _)) HB.out)
      have bN := (hb3.block wr.heap.size (by simp)).trans (heap_alloc_new wr _)
      have n1 : w3.cell? ⟨wr.heap.size, 2, none⟩ = some (.int .i64 ((j : Int) + 1)) := cell_heap bN rfl
      clear hb3 bN d0 d1 d2 d3 d4 t0 t1
      cases hg : (leftR c a x).1 with
      | true =>
        have HG := Lib.hid hg
        go_wp2_with fail
        exact ⟨⟨j + 1, p, k + 1, by go_num, by go_num, HP.out, HOK.out.2.1, by have := HLL.out; simp only [leafOf, HG.out] at this; simpa using this, by omega, HB3.out, HX3.out⟩, by simp [intOf]; omega⟩
      | false =>
        have HG := Lib.hid hg
        go_wp2_with fail
        exact ⟨⟨j + 1 + p.count, q, k + 1, by go_num, by go_num, HQ.out, HOK.out.2.2, by have := HLL.out; simp only [leafOf, HG.out] at this; simpa using this, by omega, HB3.out, HX3.out⟩, by simp [intOf]; omega⟩
set_option maxHeartbeats 1000000 in
set_option maxRecDepth 100000 in
/-- a vector that is none -/
theorem Leaf_no (nv xv : Value) (ls : List Nd) (x : List Int) (dim : Int) (lo lo' : Nat) (w : World) (h : Nds w lo w.heap.size nv ls) (h' : Seq 1 inC w lo' w.heap.size xv x) (hT : IsT dim ls) (hv : vecB x dim = false) :
    Calls Tryd.prog 33 #[.agg #[.int .i64 dim, nv], xv] w fun e w' => e = .returned (.tuple #[.int .i64 0, .int .i64 0, .int .i64 80]) ∧ Below w.heap.size w w' := by
  have HI := Lib.hid (fun (W : World) (hb : Below w.heap.size w W) => TIs_any nv ls dim lo W (h.up hb))
  have HV := Lib.hid (fun (W : World) (hb : Below w.heap.size w W) => VIs_any xv x dim lo' w.heap.size W (h'.below hb))
  obtain ⟨A, cap, rfl, hc1, hc2, _⟩ := h.form
  obtain ⟨n, hn⟩ : ∃ n, ls.length = n := ⟨_, rfl⟩
  rw [isTB_true.2 hT] at HI
  rw [hv] at HV
  rw [hn] at HI hc1 ⊢
  clear h h'
  go_enter Tryd.func33, Tryd.ntmps33
  go_wp2_with fail
  refine (HI.out _ (below_a1 _ _)).mono ?_
  rintro e w1 ⟨rfl, hb1⟩
  have HB1 := Lib.hid (bt hb1 (below_a1 w _))
  have hbx : Boxed2 w1 w.heap.size dim (.slice A n cap) := (hb1.block _ (by simp)).trans (heap_alloc_new w _)
  obtain ⟨t0, t1⟩ := hbx.cells
  clear hb1 hbx
  go_wp2_with fail
  refine (HV.out _ HB1.out).mono ?_
  rintro e w2 ⟨rfl, rfl⟩
  go_wp2_with fail
  go_ret3
  exact ⟨rfl, HB1.out⟩
end Go.Proofs.YtmmgfelifmdnbaaDoor.LefW
