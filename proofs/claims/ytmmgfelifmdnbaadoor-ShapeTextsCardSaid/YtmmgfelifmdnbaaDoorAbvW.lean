/- copseref11.Above: the nodes on a vector's way. -/
import Derived.Test.YtmmgfelifmdnbaaDoorUpW
import Derived.Test.YtmmgfelifmdnbaaDoorRouW
namespace Go.Proofs.YtmmgfelifmdnbaaDoor.AbvW
set_option linter.unusedVariables false
open Go.BigFrame Go.RowKit Go.Shelf Go.WideElems Base SeqM ShpM ShpV ShpW ShpD ShpT ShpI ShpJ ShpR ShpU ItrD ItrW ItrK ItrF ItrG LefM PruW RouM RouW UpM UpW

noncomputable def wayI (b : B) (x : List Int) : List Int := (wayOf b 0 x).map fun (j : Nat) => (j : Int)
def AbRel (b : B) (ls : List Nd) (dim : Int) (nv : Value) (x : List Int) (w : World) (out i : Value) (wr : World) : Prop :=
  ∃ (j : Nat) (b' : B) (pre : List Nat) (A : Option Addr) (cap : Nat), pre.length ≤ j ∧ out = .slice A (pre.length + 1) cap ∧ i = .int .i64 j ∧ At ls j b' ∧ wayOf b 0 x = pre ++ wayOf b' j x ∧ wr.ownsRow (w.heap.size + 1) 3 1 (.slice A (pre.length + 1) cap) (pre.length + 1) ((pre ++ [j]).map fun (j : Nat) => Value.int .i64 (j : Int)) ∧ Below w.heap.size w wr ∧ Boxed2 wr w.heap.size dim nv
set_option maxHeartbeats 2000000 in
set_option maxRecDepth 100000 in
theorem Above_in (nv xv : Value) (ls : List Nd) (x : List Int) (dim : Int) (lo lo' : Nat) (w : World) (h : Nds w lo w.heap.size nv ls) (h' : Seq 1 inC w lo' w.heap.size xv x) (hT : IsT dim ls) (b : B) (hat : At ls 0 b) :
    Calls Tryd.prog 25 #[.agg #[.int .i64 dim, nv], xv] w fun e w' => (∃ v, e = .returned v ∧ Seq 1 inC w' w.heap.size w'.heap.size v (wayI b x)) ∧ Below w.heap.size w w' := by
  have HS := Lib.hid h
  have HL := Lib.hid (fun (W : World) (cv : Value) (c : List Int) (a : Int) (hb : Below w.heap.size w W) (hc : Seq 1 inC W lo W.heap.size cv c) => RLeft_any cv xv c x a lo lo' W hc (h'.up hb))
  obtain ⟨A, cap, rfl, hc1, hc2, _⟩ := h.form
  obtain ⟨n, hn⟩ : ∃ n, ls.length = n := ⟨_, rfl⟩
  have hn1 := (isT_len hT).2
  rw [hn] at HS hc1 hn1 ⊢
  have H0 := Lib.hid (fun W v c (hb : Below w.heap.size w W) (hbx : Boxed2 W w.heap.size dim (.slice A n cap)) (ho : W.ownsRow (w.heap.size + 1) 3 1 (.slice v 1 c) 1 [Value.int .i64 0]) => show AbRel b ls dim (.slice A n cap) x w (.slice v 1 c) (.int .i64 0) W from ⟨0, b, [], v, c, Nat.le_refl _, rfl, rfl, hat, rfl, ho, hb, hbx⟩)
  clear hat hT h h'
  go_enter Tryd.func25, Tryd.ntmps25
  go_wp2_with fail
  go_loopw [5, 6] (fun out i wr => AbRel b ls dim (.slice A n cap) x w out i wr) (fun _ i _ => n - (intOf i).toNat)
  case atStart =>
    refine H0.out _ _ _ (below_a2 _ _ _) ?_ ?_
    · exact (Below.heap_alloc _ _ _ (by simp)).trans (heap_alloc_new w _)
    · have := own_one (w.alloc (.cells #[.int .i64 dim, .slice A n cap] 24)) #[.int .i64 0] 3 1 rfl
      simpa using this
  case round =>
    obtain ⟨j, b', pre, OA, oc, hpl, rfl, rfl, hat, hway, hown, hb, hbx⟩ := hrel
    have HO := Lib.hid hown
    have HB := Lib.hid hb
    have HX := Lib.hid hbx
    have HW := Lib.hid hway
    obtain ⟨t0, t1⟩ := hbx.cells
    have lz := (Array.getElem?_eq_some_iff.1 hbx).1
    have hjl := at_le hat
    have hcp := count_pos b'
    rw [hn] at hjl
    cases b' with
    | leaf m =>
      have h0 := at_leaf.1 hat
      obtain ⟨ad, cv, e1, hbk, d0, d1, d2, d3, d4, hcv⟩ := (HS.out.below hb).get h0
      subst e1
      have HSQ := Lib.hid (show Seq 1 inC wr w.heap.size wr.heap.size (.slice OA (pre.length + 1) oc) (wayI b x) from by
        have e : wayI b x = (pre ++ [j]).map fun (j : Nat) => (j : Int) := by unfold wayI; rw [hway]; rfl
        have el : (wayI b x).length = pre.length + 1 := by rw [e]; simp
        rw [← el]
        refine gseq (w0 := w) (base := w.heap.size + 1) ?_ (by omega)
        rw [el, e, List.map_map]
        exact hown)
      clear hat hb hbx hcv d0 d1 d3 d4 hown hway
      go_wp2_with fail
      go_ret
      exact ⟨⟨_, rfl, HSQ.out⟩, HB.out⟩
    | fork c a p q =>
      obtain ⟨h0, hp, hq⟩ := at_fork.1 hat
      obtain ⟨ad, cv, e1, hbk, d0, d1, d2, d3, d4, hcv⟩ := (HS.out.below hb).get h0
      subst e1
      obtain ⟨AC, cc, rfl, _, _, _, _⟩ := id hcv
      have HCV := Lib.hid (hcv.more (Nat.le_refl _) hb.size)
      dsimp only at d0 d1 d2 d3 d4 HCV
      obtain ⟨cn, hcn⟩ : ∃ cn, c.length = cn := ⟨_, rfl⟩
      rw [hcn] at d0 HCV
      have hpos : decide ((0 : Int) < ((j + 1 : Nat) : Int)) = true := decide_eq_true (by omega)
      have HP := Lib.hid hp
      have HQ := Lib.hid hq
      have l1 : ad.block < wr.heap.size := Nat.lt_of_lt_of_le hbk hb.size
      simp only [B.count] at hjl
      have cp := count_pos p
      have cq := count_pos q
      clear hat hb hbx hcv hp hq hown hway
      go_wp2_with fail
      refine (HL.out _ _ c a HB.out HCV.out).mono ?_
      rintro e w3 ⟨rfl, hb3⟩
      have HX3 := Lib.hid ((hb3.block _ lz).trans HX.out)
      have HB3 := Lib.hid (bt hb3 HB.out)
      have HO3 := Lib.hid (own_below HO.out hb3)
      have hz3 := hb3.size
      replace d2 : w3.cell? _ = _ := keepA hb3 d2
      replace d3 : w3.cell? _ = _ := keepA hb3 d3
      replace t0 : w3.cell? _ = _ := keepA hb3 t0
      replace t1 : w3.cell? _ = _ := keepA hb3 t1
      clear hb3 d0 d1 d4
      cases hg : (leftR c a x).1 with
      | true =>
        have HG := Lib.hid hg
        go_wp2_with (at_builtin; refine app1 w3 _ rfl (.tmp 41) (.tmp 43) _ rfl eltI (w.heap.size + 1) OA (pre.length + 1) oc _ rfl HO3.out rfl rfl (by simp [Value.oneCell']) (by omega) (by omega) ?_; intro A' cap' w' hA)
        have HX' := Lib.hid ((hA.below.block _ (by omega)).trans HX3.out)
        refine ⟨⟨j + 1, p, pre ++ [j], A', cap', by simp; omega, by simp, by go_num, HP.out, ?_, ?_, HB3.out.trans (hA.below.mono (by omega)), HX'.out⟩, by simp [intOf]; omega⟩
        · have := HW.out
          simp only [wayOf, HG.out] at this
          simpa using this
        · have := hA.own
          simpa [Function.comp_def] using this
      | false =>
        have HG := Lib.hid hg
        go_wp2_with (at_builtin; refine app1 w3 _ rfl (.tmp 41) (.tmp 43) _ rfl eltI (w.heap.size + 1) OA (pre.length + 1) oc _ rfl HO3.out rfl rfl (by simp [Value.oneCell']) (by omega) (by omega) ?_; intro A' cap' w' hA)
        have HX' := Lib.hid ((hA.below.block _ (by omega)).trans HX3.out)
        refine ⟨⟨j + 1 + p.count, q, pre ++ [j], A', cap', by simp; omega, by simp, by go_num, HQ.out, ?_, ?_, HB3.out.trans (hA.below.mono (by omega)), HX'.out⟩, by simp [intOf]; omega⟩
        · have := HW.out
          simp only [wayOf, HG.out] at this
          simpa using this
        · have := hA.own
          simpa [Function.comp_def] using this
end Go.Proofs.YtmmgfelifmdnbaaDoor.AbvW
