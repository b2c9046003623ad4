/- shape.Text. -/
import Derived.Test.YtmmgfelifmdnbaaDoorWrtW
namespace Go.Proofs.YtmmgfelifmdnbaaDoor.TexW
set_option linter.unusedVariables false
open Go.RowKit Go.Shelf Base SeqM ShpM ShpV ShpW ShpT ShpI ShpJ ItrD ItrW ItrK ItrF ItrG TxtM GlbS WrtM BldW WrtW

noncomputable def textOf (dim : Int) (ls : List Nd) : List UInt8 := open Classical in if h : ∃ b, IsT dim ls ∧ At ls 0 b then text dim (Classical.choose h) else []
theorem textOf_tree {dim : Int} {ls : List Nd} {b : B} (ht : IsT dim ls) (hat : At ls 0 b) : textOf dim ls = text dim b := by
  unfold textOf
  rw [dif_pos ⟨b, ht, hat⟩]
  have := (Classical.choose_spec (⟨b, ht, hat⟩ : ∃ b, IsT dim ls ∧ At ls 0 b)).2
  rw [at_unique this hat]
theorem textOf_none {dim : Int} {ls : List Nd} (ht : ¬ IsT dim ls) : textOf dim ls = [] := by
  unfold textOf
  rw [dif_neg (fun ⟨_, h, _⟩ => ht h)]
set_option maxHeartbeats 4000000 in
set_option maxRecDepth 100000 in
theorem Text_any (dim : Int) (nv : Value) (ls : List Nd) (lo : Nat) (w : World) (h : Nds w lo w.heap.size nv ls) (hG : G w) :
    Calls Tryd.prog 27 #[.agg #[.int .i64 dim, nv]] w fun e w' => e = .returned (.string ⟨(textOf dim ls).toArray⟩) ∧ Below w.heap.size w w' := by
  have HI := Lib.hid (fun (W : World) (hb : Below w.heap.size w W) => TIs_any nv ls dim lo W (h.up hb))
  obtain ⟨A, cap, rfl, hc1, hc2, _⟩ := h.form
  obtain ⟨n, hn⟩ : ∃ n, ls.length = n := ⟨_, rfl⟩
  by_cases hT : IsT dim ls
  · obtain ⟨hd1, hd2, b, hat, hct, hok, hsz, _⟩ := id hT
    have F := Lib.hid (textOf_tree hT hat)
    have hl1 := (isT_len hT).2
    have htl := txt_len b hok hsz
    have HW := Lib.hid (fun (W0 : World) (hb : Below w.heap.size w W0) (W : World) (l : List UInt8) (bb : Nat) => write_any (bb := bb) (dim := dim) (h.up hb) (hG.below hb) b 0 0 W l rfl hat hok hsz)
    rw [isTB_true.2 hT] at HI
    rw [hn] at HI HW hc1 ⊢
    have HG := Lib.hid hG
    clear h hat
    go_enter Tryd.func27, Tryd.ntmps27
    go_wp2_with fail
    refine (HI.out _ (below_a1 _ _)).mono ?_
    rintro e w1 ⟨rfl, hb1⟩
    have hbx : Boxed2 w1 w.heap.size dim (.slice A n cap) := (hb1.block _ (by simp)).trans (heap_alloc_new w _)
    have HX1 := Lib.hid hbx
    have HB1 := Lib.hid (bt hb1 (below_a1 w _))
    have lz := (Array.getElem?_eq_some_iff.1 hbx).1
    obtain ⟨t0, t1⟩ := hbx.cells
    clear hb1 hbx
    go_wp2_with fail
    have HKT := Lib.hid ((Below.heap_alloc w1 (.cells #[.pointer none, .slice none 0 0] 66) _ lz).trans HX1.out)
    have HS := Lib.hid (show WSt w1 (w1.alloc (.cells #[.pointer none, .slice none 0 0] 66)) w1.heap.size [] (w1.alloc (.cells #[.pointer none, .slice none 0 0] 66)) from ⟨Lib.fresh_isBuilder _ _ _, below_a1 _ _, KeepU.refl _⟩)
    have HG1 := Lib.hid (HG.out.below HB1.out)
    obtain ⟨Wa, hWa⟩ : ∃ Wa, w1.alloc (.cells #[.pointer none, .slice none 0 0] 66) = Wa := ⟨_, rfl⟩
    rw [hWa] at HKT HS ⊢
    clear hWa t0 t1
    have hil := itoa_len dim (by omega) (by omega)
    refine (itC dim (by omega) (by omega) HG1.out HS.out).mono ?_
    rintro e V1 ⟨rfl, h1⟩
    have H1 := Lib.hid h1
    (try clear t0 t1)
    obtain ⟨t0, t1⟩ := Boxed2.cells (h1.keep _ _ _ _ HKT.out (by decide) (by decide))
    have lz1 : w.heap.size < V1.heap.size := by have := h1.low.size; omega
    clear h1
    go_wp2_with fail
    refine (wsC _ H1.out (by (try simp only [List.length_append, List.length_cons, List.length_nil]); omega)).mono ?_
    rintro e V2 ⟨⟨_, rfl⟩, h2⟩
    have H2 := Lib.hid h2
    (try clear t0 t1)
    obtain ⟨t0, t1⟩ := Boxed2.cells (h2.keep _ _ _ _ HKT.out (by decide) (by decide))
    have lz2 : w.heap.size < V2.heap.size := by have := h2.low.size; omega
    clear h2
    go_wp2_with fail
    refine (wbC 58 _ rfl H2.out (by (try simp only [List.length_append, List.length_cons, List.length_nil]); omega)).mono ?_
    rintro e V3 ⟨rfl, h3⟩
    have H3 := Lib.hid h3
    (try clear t0 t1)
    obtain ⟨t0, t1⟩ := Boxed2.cells (h3.keep _ _ _ _ HKT.out (by decide) (by decide))
    have lz3 : w.heap.size < V3.heap.size := by have := h3.low.size; omega
    clear h3
    go_wp2_with fail
    refine (HW.out w1 HB1.out V3 _ _ H3.out.low H3.out.bld (by (try simp only [List.length_append, List.length_cons, List.length_nil]); omega)).mono ?_
    rintro e V4 ⟨rfl, h4⟩
    replace h4 := H3.out.more h4
    have H4 := Lib.hid h4
    (try clear t0 t1)
    obtain ⟨t0, t1⟩ := Boxed2.cells (h4.keep _ _ _ _ HKT.out (by decide) (by decide))
    have lz4 : w.heap.size < V4.heap.size := by have := h4.low.size; omega
    clear h4
    go_wp2_with fail
    refine (Tryd.Builder_String_any w1.heap.size w1.heap.size _ _ H4.out.bld H4.out.low.size).mono ?_
    rintro e V5 ⟨rfl, h5⟩
    have H5 := Lib.hid h5
    clear h5
    go_wp2_with fail
    go_ret
    refine ⟨?_, HB1.out.trans ((H4.out.low.trans H5.out).mono HB1.out.size)⟩
    rw [F.out]
    rfl
  · have F := Lib.hid (textOf_none hT)
    rw [isTB_false.2 hT] at HI
    rw [hn] at HI hc1 ⊢
    clear h
    go_enter Tryd.func27, Tryd.ntmps27
    go_wp2_with fail
    refine (HI.out _ (below_a1 _ _)).mono ?_
    rintro e w1 ⟨rfl, hb1⟩
    have HB1 := Lib.hid (bt hb1 (below_a1 w _))
    clear hb1
    go_wp2_with fail
    go_ret
    exact ⟨by rw [F.out]; rfl, HB1.out⟩
end Go.Proofs.YtmmgfelifmdnbaaDoor.TexW
