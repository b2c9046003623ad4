/- shape.Parse. -/
import Derived.Test.YtmmgfelifmdnbaaDoorPrsW
import Derived.Test.YtmmgfelifmdnbaaDoorKeeW
namespace Go.Proofs.YtmmgfelifmdnbaaDoor.ParW
set_option linter.unusedVariables false
open Go.RowKit Go.Shelf Base SeqM ShpM ShpT ShpI ShpJ ItrD ItrG TxtM GlbS WrtM RdrW NumW PrsM PruW PrsS PrsW

/-- what comes of a text: the dimension, the nodes, the error's number -/
noncomputable def parseR (s : List UInt8) : Int × List Nd × Int :=
  let a := numM s true
  let b := byteM 58 a.2.1 a.2.2
  if b.2 = true ∧ 1 ≤ a.1 ∧ a.1 ≤ 8 then
    let p := nodeM a.1.toNat 7 b.1 b.2 []
    if p.2.1 = true ∧ p.1 = [] ∧ isTB a.1 p.2.2 = true then (a.1, p.2.2, 0) else (0, [], 20)
  else (0, [], 20)
def PPost (w : World) (r : Int × List Nd × Int) (e : Ending) (w' : World) : Prop := (∃ v, e = .returned (.tuple #[.agg #[.int .i64 r.1, v], .int .i64 r.2.2]) ∧ Nds w' w.heap.size w'.heap.size v r.2.1) ∧ Below w.heap.size w w'
theorem nds_of {w0 W : World} {tb : Nat} {dim : Int} {nv : Value} {rs : List (Value × Nd)} (h : PT w0 tb dim nv rs W) : Nds W w0.heap.size W.heap.size nv (rs.map (·.2)) :=
  ⟨rs, rfl, Seq.of_own h.own, fun r hr => Seq.of_own (by rw [flat_inC]; exact h.coef r hr)⟩
theorem pp_no {w W : World} {r : Int × List Nd × Int} (hr : r = (0, [], 20)) (hb : Below w.heap.size w W) : PPost w r (.returned (.tuple #[.agg #[.int .i64 0, .slice none 0 0], .int .i64 20])) W := by
  unfold PPost
  rw [hr]
  exact ⟨⟨_, rfl, [], rfl, Seq.nil_, by simp⟩, hb⟩
set_option maxHeartbeats 8000000 in
set_option maxRecDepth 100000 in
theorem Parse_any (s : List UInt8) (w : World) (hG : G w) (hs : s.length ≤ 1000000) :
    Calls Tryd.prog 28 #[.string ⟨s.toArray⟩] w (PPost w (parseR s)) := by
  have HG := Lib.hid hG
  have g0 := heap_alloc_new w (.cells #[.int .i64 0, .slice none 0 0] 24)
  have b0 := below_a1 w (.cells #[.int .i64 0, .slice none 0 0] 24)
  obtain ⟨w0, hw0⟩ : ∃ w0, w.alloc (.cells #[.int .i64 0, .slice none 0 0] 24) = w0 := ⟨_, rfl⟩
  have hz0 : w0.heap.size = w.heap.size + 1 := by rw [← hw0]; simp
  rw [hw0] at g0 b0
  have HG0 := Lib.hid (hG.below b0)
  have HB0 := Lib.hid b0
  have HZ0 := Lib.hid g0
  have hrd : RAt (w0.alloc (.cells #[.string ⟨s.toArray⟩, .bool true] 77)) w0.heap.size s true := heap_alloc_new w0 _
  have HRD := Lib.hid hrd
  clear hrd hG g0 b0
  have HW0 := Lib.hid hw0
  go_enter Tryd.func28, Tryd.ntmps28
  go_wp2_with fail
  obtain ⟨rb, hrb⟩ : ∃ rb, w.heap.size + 1 = rb := ⟨_, rfl⟩
  rw [hrb] at hz0 ⊢
  rw [hz0] at HRD
  have hlw : w.heap.size < rb := by omega
  refine (number_any rb s true _ HRD.out hs (HG0.out.below (below_a1 _ _))).mono ?_
  rintro e W2 ⟨rfl, hr, hk⟩
  obtain ⟨A, hA⟩ : ∃ A, numM s true = A := ⟨_, rfl⟩
  have hla := numM_le s true
  rw [hA] at hr hla ⊢
  have HA := Lib.hid hA
  have hlow2 : Below w0.heap.size w0 W2 := (below_a1 w0 _).trans (by rw [hz0]; exact hk.1)
  have hP3 : PSt w0 rb W2.heap.size A.1 A.2.1 A.2.2 (.slice none 0 0) [] (W2.alloc (.cells #[.int .i64 A.1, .slice none 0 0] 24)) := ⟨hr.below (below_a1 W2 _), ⟨heap_alloc_new W2 _, World.ownsRow_nil _ _ _ _, by simp⟩, bt (below_a1 W2 _) hlow2⟩
  have HP3 := Lib.hid hP3
  have htb : w0.heap.size ≤ W2.heap.size := hlow2.size
  clear hP3 hr hk hA hlow2
  obtain ⟨tb, htb2⟩ : ∃ tb, W2.heap.size = tb := ⟨_, rfl⟩
  go_wp2_with fail
  (try rw [htb2])
  rw [htb2] at HP3 htb
  clear htb2
  refine (byte_any rb _ _ 58 _ rfl _ HP3.out.rd (by omega)).mono ?_
  rintro e W4 ⟨rfl, hr, hk⟩
  obtain ⟨B, hB⟩ : ∃ B, byteM 58 A.2.1 A.2.2 = B := ⟨_, rfl⟩
  have hlb := byteM_le 58 A.2.1 A.2.2
  rw [hB] at hr hlb
  have HBB := Lib.hid hB
  have hP4 := HP3.out.read hk hr (Nat.le_of_eq hz0)
  have HP4 := Lib.hid hP4
  obtain ⟨t0, t1, tf⟩ := hP4.box
  obtain ⟨c0, c1, cf⟩ := hP4.rd.cells
  have hz4 : W4.heap[w.heap.size]? = _ := (hP4.low.block _ (by omega)).trans HZ0.out
  obtain ⟨z0, z1⟩ := Boxed2.cells hz4
  have zf : ∀ o, W4.frozen? ⟨w.heap.size, o, none⟩ = false := fun o => by simp [World.frozen?, hz4]
  have lz4 := (Array.getElem?_eq_some_iff.1 hz4).1
  have hlow4 : Below w.heap.size w W4 := HB0.out.trans (hP4.low.mono (by omega))
  have HL4 := Lib.hid hlow4
  clear hP4 hr hk hB hz4 hlow4
  cases hB2 : B.2 with
  | false =>
    have F := Lib.hid (show parseR s = (0, [], 20) by simp only [parseR, HA.out, HBB.out]; rw [if_neg (by rw [hB2]; simp)])
    rw [hB2] at c1
    go_wp2_with fail
    refine bodyPost_ret (v := .tuple #[.agg #[.int .i64 0, .slice none 0 0], .int .i64 20]) (by simp only [results]; go_simp) rfl ?_
    exact pp_no F.out (((HL4.out).setCell (p := ⟨w.heap.size, 0, none⟩) (Nat.le_refl _) _).setCell (p := ⟨w.heap.size, 1, none⟩) (Nat.le_refl _) _)
  | true =>
    rw [hB2] at c1
    by_cases hd1 : A.1 < 1
    · have hd1' : decide (A.1 < 1) = true := decide_eq_true hd1
      have F := Lib.hid (show parseR s = (0, [], 20) by simp only [parseR, HA.out, HBB.out]; rw [if_neg (by omega)])
      go_wp2_with fail
      refine bodyPost_ret (v := .tuple #[.agg #[.int .i64 0, .slice none 0 0], .int .i64 20]) (by simp only [results]; go_simp) rfl ?_
      exact pp_no F.out (((HL4.out).setCell (p := ⟨w.heap.size, 0, none⟩) (Nat.le_refl _) _).setCell (p := ⟨w.heap.size, 1, none⟩) (Nat.le_refl _) _)
    · have hd1' : decide (A.1 < 1) = false := decide_eq_false hd1
      by_cases hd2 : 8 < A.1
      · have hd2' : decide (8 < A.1) = true := decide_eq_true hd2
        have F := Lib.hid (show parseR s = (0, [], 20) by simp only [parseR, HA.out, HBB.out]; rw [if_neg (by omega)])
        go_wp2_with fail
        refine bodyPost_ret (v := .tuple #[.agg #[.int .i64 0, .slice none 0 0], .int .i64 20]) (by simp only [results]; go_simp) rfl ?_
        exact pp_no F.out (((HL4.out).setCell (p := ⟨w.heap.size, 0, none⟩) (Nat.le_refl _) _).setCell (p := ⟨w.heap.size, 1, none⟩) (Nat.le_refl _) _)
      · have hd2' : decide (8 < A.1) = false := decide_eq_false hd2
        obtain ⟨dn, hdn⟩ : ∃ dn : Nat, A.1 = (dn : Int) := ⟨A.1.toNat, by omega⟩
        have FP := Lib.hid (show parseR s = if (nodeM dn 7 B.1 true []).2.1 = true ∧ (nodeM dn 7 B.1 true []).1 = [] ∧ isTB (dn : Int) (nodeM dn 7 B.1 true []).2.2 = true then ((dn : Int), (nodeM dn 7 B.1 true []).2.2, 0) else (0, [], 20) by
          simp only [parseR, HA.out, HBB.out]
          rw [if_pos (by refine ⟨hB2, by omega, by omega⟩), hdn, Int.toNat_natCast, hB2])
        rw [hdn] at t0 HP4 hd1' hd2'
        rw [hB2] at HP4
        have hdn1 : 1 ≤ dn := by omega
        have hdn2 : dn ≤ 8 := by omega
        clear hd1 hd2
        go_wp2_with fail
        refine (node_any (w0 := w0) (rb := rb) (tb := tb) (dn := dn) (Nat.le_of_eq hz0) htb HG0.out hdn1 hdn2 7 B.1 true _ [] _ 6 rfl (by omega) HP4.out (by omega) (by simp)).mono ?_
        rintro e W5 ⟨rfl, nv, rs, hP5, hm5⟩
        rw [List.map_nil] at hP5 hm5
        obtain ⟨p, hp⟩ : ∃ p, nodeM dn 7 B.1 true [] = p := ⟨_, rfl⟩
        rw [hp] at hP5 hm5 FP
        have HP5 := Lib.hid hP5
        have HM5 := Lib.hid hm5
        clear t0 t1 tf c0 c1 cf z0 z1 zf hp hm5
        obtain ⟨NA, nc, rfl⟩ := slice_of hP5.pt.own
        obtain ⟨rn, hrn⟩ : ∃ rn, rs.length = rn := ⟨_, rfl⟩
        have HRN := Lib.hid hrn
        obtain ⟨t0, t1, tf⟩ := hP5.box
        obtain ⟨c0, c1, cf⟩ := hP5.rd.cells
        have hz5 : W5.heap[w.heap.size]? = _ := (hP5.low.block _ (by omega)).trans HZ0.out
        have HZ5 := Lib.hid hz5
        obtain ⟨z0, z1⟩ := Boxed2.cells hz5
        have zf : ∀ o, W5.frozen? ⟨w.heap.size, o, none⟩ = false := fun o => by simp [World.frozen?, hz5]
        have lz5 := (Array.getElem?_eq_some_iff.1 hz5).1
        have HL5 := Lib.hid (HB0.out.trans (hP5.low.mono (by omega)) : Below w.heap.size w W5)
        have HI := Lib.hid (TIs_any _ _ (dn : Int) w0.heap.size W5 (nds_of hP5.pt))
        rw [HM5.out] at HI
        rw [hrn] at t1 HI
        clear hP5 hz5 hrn
        cases hp2 : p.2.1 with
        | false =>
          have F := Lib.hid (show parseR s = (0, [], 20) by rw [FP.out, if_neg (by rw [hp2]; simp)])
          rw [hp2] at c1
          go_wp2_with fail
          refine bodyPost_ret (v := .tuple #[.agg #[.int .i64 0, .slice none 0 0], .int .i64 20]) (by simp only [results]; go_simp) rfl ?_
          exact pp_no F.out (((HL5.out).setCell (p := ⟨w.heap.size, 0, none⟩) (Nat.le_refl _) _).setCell (p := ⟨w.heap.size, 1, none⟩) (Nat.le_refl _) _)
        | true =>
          rw [hp2] at c1
          cases hp1 : p.1 with
          | cons x xr =>
            have F := Lib.hid (show parseR s = (0, [], 20) by rw [FP.out, if_neg (by rw [hp1]; simp)])
            rw [hp1] at c0
            have hne : ((⟨(x :: xr).toArray⟩ : ByteArray) == ⟨#[]⟩) = false := by
              show ((x :: xr).toArray == (#[] : Array UInt8)) = false
              simp
            go_wp2_with fail
            refine bodyPost_ret (v := .tuple #[.agg #[.int .i64 0, .slice none 0 0], .int .i64 20]) (by simp only [results]; go_simp) rfl ?_
            exact pp_no F.out (((HL5.out).setCell (p := ⟨w.heap.size, 0, none⟩) (Nat.le_refl _) _).setCell (p := ⟨w.heap.size, 1, none⟩) (Nat.le_refl _) _)
          | nil =>
            rw [hp1] at c0
            go_wp2_with fail
            refine HI.out.mono ?_
            rintro e W6 ⟨rfl, hb6⟩
            have hP6 := HP5.out.below hb6
            have HP6 := Lib.hid hP6
            have HL6 := Lib.hid (bt hb6 HL5.out)
            have hz6 : W6.heap[w.heap.size]? = _ := (hb6.block _ lz5).trans HZ5.out
            have HZ6 := Lib.hid hz6
            clear t0 t1 tf c0 c1 cf z0 z1 zf hb6
            obtain ⟨t0, t1, tf⟩ := hP6.box
            rw [HRN.out] at t1
            obtain ⟨z0, z1⟩ := Boxed2.cells hz6
            have zf : ∀ o, W6.frozen? ⟨w.heap.size, o, none⟩ = false := fun o => by simp [World.frozen?, hz6]
            have lz6 := (Array.getElem?_eq_some_iff.1 hz6).1
            clear hP6 hz6
            cases hT : isTB (dn : Int) p.2.2 with
            | false =>
              have F := Lib.hid (show parseR s = (0, [], 20) by rw [FP.out, if_neg (by rw [hT]; simp)])
              go_wp2_with fail
              refine bodyPost_ret (v := .tuple #[.agg #[.int .i64 0, .slice none 0 0], .int .i64 20]) (by simp only [results]; go_simp) rfl ?_
              exact pp_no F.out (((HL6.out).setCell (p := ⟨w.heap.size, 0, none⟩) (Nat.le_refl _) _).setCell (p := ⟨w.heap.size, 1, none⟩) (Nat.le_refl _) _)
            | true =>
              have F := Lib.hid (show parseR s = ((dn : Int), p.2.2, 0) by rw [FP.out, if_pos ⟨hp2, hp1, hT⟩])
              have hk7 : ∀ k', k' ≠ w.heap.size → ((W6.setCell ⟨w.heap.size, 0, none⟩ (.int .i64 (dn : Int))).setCell ⟨w.heap.size, 1, none⟩ (.slice NA rn nc)).heap[k']? = W6.heap[k']? := fun k' hk' => (Below.heap_setCell _ _ _ k' hk').trans (Below.heap_setCell _ _ _ k' hk')
              have hne7 : ∀ k' t', Typ W6 k' t' → t' ≠ 24 → k' ≠ w.heap.size := fun k' t' hT' ht e => ht ((show Typ W6 w.heap.size t' from e ▸ hT').eq ⟨_, _, HZ6.out⟩)
              have HO7 := Lib.hid (own_keep HP6.out.pt.own (fun k' _ hT' => hk7 k' (hne7 _ _ hT' (by decide))))
              have HC7 := Lib.hid (fun r hr => own_keep (HP6.out.pt.coef r hr) (fun k' _ hT' => hk7 k' (hne7 _ _ hT' (by decide))))
              have HL7 := Lib.hid (((HL6.out.setCell (p := ⟨w.heap.size, 0, none⟩) (Nat.le_refl _) (.int .i64 (dn : Int))).setCell (p := ⟨w.heap.size, 1, none⟩) (Nat.le_refl _) (.slice NA rn nc)))
              clear hk7 hne7
              go_wp2_with fail
              refine bodyPost_ret (v := .tuple #[.agg #[.int .i64 (dn : Int), .slice NA rn nc], .int .i64 0]) (by simp only [results]; go_simp) rfl ?_
              unfold PPost
              rw [F.out]
              refine ⟨⟨_, rfl, rs, HM5.out, ?_, fun r hr => (Seq.of_own (by rw [flat_inC]; exact HC7.out r hr)).more (by omega) (Nat.le_refl _)⟩, HL7.out⟩
              have := HO7.out
              have hq := (Seq.of_own this).more (show w.heap.size ≤ w0.heap.size by omega) (Nat.le_refl _)
              rw [HRN.out] at hq
              exact hq
end Go.Proofs.YtmmgfelifmdnbaaDoor.ParW
