/- copseref11.Parents, Depths, Depth, Leaves. -/
import Derived.Test.YtmmgfelifmdnbaaDoorUpM
import Derived.Test.YtmmgfelifmdnbaaDoorShpX
import Derived.Test.YtmmgfelifmdnbaaDoorRouM
namespace Go.Proofs.YtmmgfelifmdnbaaDoor.UpW
set_option linter.unusedVariables false
open Go.BigFrame Go.RowKit Go.Shelf Go.WideElems Base SeqM ShpM ShpV ShpW ShpD ShpT ShpI ShpJ ShpR ItrD ItrW ItrK ItrF ItrG UpM

/-- a list that grows, one number a round, of f -/
def GRel (f : Nat → List Int) (n : Nat) (dim : Int) (nv : Value) (w : World) (out i : Value) (wr : World) : Prop :=
  ∃ (k : Nat) (A : Option Addr) (cap : Nat), k ≤ n ∧ out = .slice A (f k).length cap ∧ i = .int .i64 k ∧ wr.ownsRow (w.heap.size + 1) 3 1 (.slice A (f k).length cap) (f k).length ((f k).map (Value.int .i64)) ∧ Below w.heap.size w wr ∧ Boxed2 wr w.heap.size dim nv
theorem own_nil (w : World) (base : Nat) : w.ownsRow base 3 1 (.slice none 0 0) 0 [] := World.ownsRow_nil _ _ _ _
theorem gseq {w0 w : World} {base : Nat} {A : Option Addr} {cap : Nat} {l : List Int} (h : w.ownsRow base 3 1 (.slice A l.length cap) l.length (l.map (Value.int .i64))) (hb : w0.heap.size ≤ base) : Seq 1 inC w w0.heap.size w.heap.size (.slice A l.length cap) l :=
  (Seq.of_own (by rw [flat_inC]; exact h)).more hb (Nat.le_refl _)
def ORel (P : Int) (n : Nat) (w : World) (o i : Value) (wr : World) : Prop := ∃ k : Nat, k ≤ n ∧ o = .int .i64 (ofK P k) ∧ i = .int .i64 k ∧ w = wr
set_option maxHeartbeats 2000000 in
set_option maxRecDepth 100000 in
theorem RParents_any (dim : Int) (nv : Value) (ls : List Nd) (lo : Nat) (w : World) (h : Nds w lo w.heap.size nv ls) (hl7 : ls.length ≤ 1000000) :
    Calls Tryd.prog 15 #[.agg #[.int .i64 dim, nv]] w fun e w' => (∃ v, e = .returned v ∧ Seq 1 inC w' w.heap.size w'.heap.size v (colParents (vsOf dim ls))) ∧ Below w.heap.size w w' := by
  have HS := Lib.hid h
  have HI := Lib.hid (fun (W : World) (hb : Below w.heap.size w W) => RTIs_any nv ls dim lo W (h.up hb) hl7)
  obtain ⟨A, cap, rfl, hc1, hc2, _⟩ := h.form
  obtain ⟨n, hn⟩ : ∃ n, ls.length = n := ⟨_, rfl⟩
  rw [hn] at HI HS hc1 hl7
  clear h
  by_cases hT : IsT dim ls
  · obtain ⟨_, _, b, hat, hct, _⟩ := id hT
    rw [hn] at hct
    have F := Lib.hid (par_eq hT hat)
    rw [hct] at F
    have HAT := Lib.hid hat
    rw [isTB_true.2 hT] at HI
    rw [hn]
    have hn0 := (isT_len hT).1
    rw [hn] at hn0
    clear hat hT
    go_enter Tryd.func15, Tryd.ntmps15
    go_wp2_with fail
    refine (HI.out _ (below_a1 _ _)).mono ?_
    rintro e w1 ⟨rfl, hb1⟩
    have hbx : Boxed2 w1 w.heap.size dim (.slice A n cap) := (hb1.block _ (by simp)).trans (heap_alloc_new w _)
    have H0 := Lib.hid (show GRel (parL b) n dim (.slice A n cap) w (.slice none 0 0) (.int .i64 0) w1 from ⟨0, none, 0, Nat.zero_le _, rfl, rfl, own_nil _ _, bt hb1 (below_a1 w _), hbx⟩)
    clear hb1 hbx
    go_wp2_with fail
    go_loopw [3, 4] (fun out i wr => GRel (parL b) n dim (.slice A n cap) w out i wr) (fun _ i _ => n - (intOf i).toNat)
    case atStart => exact H0.out
    case round =>
      obtain ⟨k, OA, oc, hk, rfl, rfl, hown, hb, hbx⟩ := hrel
      have HO := Lib.hid hown
      have HB := Lib.hid hb
      have HX := Lib.hid hbx
      obtain ⟨t0, t1⟩ := hbx.cells
      have lz := (Array.getElem?_eq_some_iff.1 hbx).1
      have hlen : (parL b k).length = k := by unfold parL; simp
      obtain ⟨ol, hol⟩ : ∃ ol, (parL b k).length = ol := ⟨_, rfl⟩
      by_cases hkn : k = n
      · subst hkn
        have HSQ := Lib.hid (gseq (w0 := w) hown (by omega))
        clear hown hb hbx
        go_wp2_with fail
        go_ret
        exact ⟨⟨_, rfl, by rw [F.out]; exact HSQ.out⟩, HB.out⟩
      · clear hown hbx
        rw [hol] at HO ⊢
        go_wp2_with fail
        have H1 := Lib.hid (show ORel (parAt b 0 (-1) k) n wr (.int .i64 (-1)) (.int .i64 0) wr from ⟨0, Nat.zero_le _, by rw [ofK_zero], rfl, rfl⟩)
        go_loopw [5, 6] (fun o i w2 => ORel (parAt b 0 (-1) k) n wr o i w2) (fun _ i _ => n - (intOf i).toNat)
        case atStart => exact H1.out
        case round =>
          obtain ⟨m, hm, rfl, rfl, rfl⟩ := hrel
          by_cases hmn : m = n
          · subst hmn
            have FO := Lib.hid (show ofK (parAt b 0 (-1) k) m = parAt b 0 (-1) k by rw [← hct]; exact ofK_all HAT.out (by omega))
            obtain ⟨P, hP⟩ : ∃ P, parAt b 0 (-1) k = P := ⟨_, rfl⟩
            rw [FO.out, hP]
            have HP := Lib.hid hP
            clear hP
            go_wp2_with (at_builtin; refine app1 wr _ rfl (.tmp 52) (.tmp 54) _ rfl eltI (w.heap.size + 1) OA ol oc ((parL b k).map (Value.int .i64)) rfl HO.out rfl rfl (by simp [Value.oneCell']) (by omega) (by omega) ?_; intro A' cap' w' hA)
            have HX' := Lib.hid ((hA.below.block _ (by omega)).trans HX.out)
            refine ⟨⟨k + 1, A', cap', by omega, ?_, by go_num, ?_, HB.out.trans (hA.below.mono (by omega)), HX'.out⟩, by simp [intOf]; omega⟩
            · rw [show (parL b (k + 1)).length = ol + 1 by unfold parL; simp; omega]
            · have := hA.own
              rw [show (parL b (k + 1)).length = ol + 1 by unfold parL; simp; omega, show parL b (k + 1) = parL b k ++ [P] by rw [← HP.out]; exact range_next _ _]
              simpa using this
          · obtain ⟨nd, hnd⟩ : ∃ nd, ls[m]? = some nd := ⟨_, List.getElem?_eq_getElem (by omega)⟩
            obtain ⟨ad, cv, e1, hbk, d0, d1, d2, d3, d4, hcv⟩ := (HS.out.below hb).get hnd
            subst e1
            have HHIT := Lib.hid (fun h4 h5 => ofK_hit (j := k) HAT.out (show m < b.count by omega) hnd h4 h5)
            have HMISS := Lib.hid (fun h5 => ofK_miss (j := k) HAT.out (show k < b.count by omega) hnd h5)
            obtain ⟨O, hO⟩ : ∃ O, ofK (parAt b 0 (-1) k) m = O := ⟨_, rfl⟩
            rw [hO] at HMISS ⊢
            obtain ⟨nc, na, ndl, ndr, nz⟩ := nd
            dsimp only at d0 d1 d2 d3 d4 HHIT HMISS hnd
            obtain ⟨AC, cc, rfl, _, _, _, _⟩ := hcv
            have l1 : ad.block < wr.heap.size := Nat.lt_of_lt_of_le hbk hb.size
            clear hb hnd
            by_cases hl : 0 < ndl
            · have hl1 : decide (0 < ndl) = true := decide_eq_true hl
              by_cases h5 : ndl = (k : Int)
              · have HN := Lib.hid (HHIT.out hl (.inl h5))
                have h51 : (ndl == (k : Int)) = true := beq_iff_eq.2 h5
                subst h5
                go_wp2_with fail
                exact ⟨⟨m + 1, by omega, by rw [HN.out], by go_num, rfl⟩, by simp [intOf]; omega⟩
              · have h51 : (ndl == (k : Int)) = false := beq_eq_false_iff_ne.2 h5
                by_cases h6 : ndr = (k : Int)
                · have HN := Lib.hid (HHIT.out hl (.inr h6))
                  have h61 : (ndr == (k : Int)) = true := beq_iff_eq.2 h6
                  subst h6
                  go_wp2_with fail
                  exact ⟨⟨m + 1, by omega, by rw [HN.out], by go_num, rfl⟩, by simp [intOf]; omega⟩
                · have h61 : (ndr == (k : Int)) = false := beq_eq_false_iff_ne.2 h6
                  have HN := Lib.hid (HMISS.out (fun e => e.2.elim h5 h6))
                  go_wp2_with fail
                  exact ⟨⟨m + 1, by omega, by rw [HN.out], by go_num, rfl⟩, by simp [intOf]; omega⟩
            · have hl1 : decide (0 < ndl) = false := decide_eq_false hl
              have HN := Lib.hid (HMISS.out (fun e => hl e.1))
              go_wp2_with fail
              exact ⟨⟨m + 1, by omega, by rw [HN.out], by go_num, rfl⟩, by simp [intOf]; omega⟩
  · have F := Lib.hid (vsOf_none hT)
    rw [isTB_false.2 hT] at HI
    rw [hn]
    go_enter Tryd.func15, Tryd.ntmps15
    go_wp2_with fail
    refine (HI.out _ (below_a1 _ _)).mono ?_
    rintro e w1 ⟨rfl, hb1⟩
    have HB1 := Lib.hid (bt hb1 (below_a1 w _))
    clear hb1
    go_wp2_with fail
    go_ret
    exact ⟨⟨_, rfl, by rw [F.out]; exact Seq.nil_⟩, HB1.out⟩
def DRel (f : Nat → List Int) (n : Nat) (w : World) (out i : Value) (wr : World) : Prop :=
  ∃ (k : Nat) (A : Option Addr) (cap : Nat), k ≤ n ∧ out = .slice A (f k).length cap ∧ i = .int .i64 k ∧ wr.ownsRow w.heap.size 3 1 (.slice A (f k).length cap) (f k).length ((f k).map (Value.int .i64)) ∧ Below w.heap.size w wr
/-- steps up: what is above is counted -/
def CRel (b : B) (n : Nat) (j : Nat) (w : World) (m z : Value) (wr : World) : Prop :=
  ∃ (mi zi : Int), m = .int .i64 mi ∧ z = .int .i64 zi ∧ 0 ≤ mi ∧ ((zi = -1 ∧ mi = depAt b 0 0 j) ∨ ∃ q : Nat, zi = (q : Int) ∧ q < n ∧ mi + depAt b 0 0 q + 1 = depAt b 0 0 j) ∧ w = wr
set_option maxHeartbeats 2000000 in
set_option maxRecDepth 100000 in
theorem RDepths_any (dim : Int) (nv : Value) (ls : List Nd) (lo : Nat) (w : World) (h : Nds w lo w.heap.size nv ls) (hl7 : ls.length ≤ 1000000) :
    Calls Tryd.prog 13 #[.agg #[.int .i64 dim, nv]] w fun e w' => (∃ v, e = .returned v ∧ Seq 1 inC w' w.heap.size w'.heap.size v (colDepths (vsOf dim ls))) ∧ Below w.heap.size w w' := by
  have HI := Lib.hid (fun (W : World) (hb : Below w.heap.size w W) => RParents_any dim nv ls lo W (h.up hb) hl7)
  obtain ⟨A, cap, rfl, hc1, hc2, _⟩ := h.form
  obtain ⟨n, hn⟩ : ∃ n, ls.length = n := ⟨_, rfl⟩
  rw [hn] at HI hc1 hl7
  clear h
  by_cases hT : IsT dim ls
  · obtain ⟨_, _, b, hat, hct, _⟩ := id hT
    rw [hn] at hct
    have F := Lib.hid (dep_eq hT hat)
    have FP := par_eq hT hat
    rw [hct] at F FP
    rw [FP] at HI
    have HAT := Lib.hid hat
    rw [hn]
    have hn0 := (isT_len hT).1
    have hn1 := (isT_len hT).2
    rw [hn] at hn0 hn1
    have hhi := high_le b
    clear hat hT FP
    go_enter Tryd.func13, Tryd.ntmps13
    go_wp2_with fail
    refine (HI.out _ (below_a1 _ _)).mono ?_
    rintro e w1 ⟨⟨v, rfl, hv⟩, hb1⟩
    have HB1 := Lib.hid (bt hb1 (below_a1 w _))
    obtain ⟨UA, uc, rfl, uc1, uc2, hup, _⟩ := id hv
    have hpl : (parL b n).length = n := by unfold parL; simp
    rw [hpl] at uc1 hv ⊢
    have HV := Lib.hid hv
    have H0 := Lib.hid (show DRel (depL b) n w1 (.slice none 0 0) (.int .i64 0) w1 from ⟨0, none, 0, Nat.zero_le _, rfl, rfl, own_nil _ _, Below.refl _ _⟩)
    clear hb1 hv hup
    go_wp2_with fail
    go_loopw [4, 5] (fun out i wr => DRel (depL b) n w1 out i wr) (fun _ i _ => n - (intOf i).toNat)
    case atStart => exact H0.out
    case round =>
      obtain ⟨k, OA, oc, hk, rfl, rfl, hown, hb⟩ := hrel
      have HO := Lib.hid hown
      have HB := Lib.hid hb
      have hlen : (depL b k).length = k := by unfold depL; simp
      obtain ⟨ol, hol⟩ : ∃ ol, (depL b k).length = ol := ⟨_, rfl⟩
      by_cases hkn : k = n
      · subst hkn
        have HSQ := Lib.hid (gseq (w0 := w) hown HB1.out.size)
        clear hown hb
        go_wp2_with fail
        go_ret
        exact ⟨⟨_, rfl, by rw [F.out]; exact HSQ.out⟩, HB1.out.trans (HB.out.mono HB1.out.size)⟩
      · clear hown
        rw [hol] at HO ⊢
        have HVr := Lib.hid (HV.out.below hb)
        obtain ⟨_, _, eu, _, _, hupr, _⟩ := id HVr.out
        injection eu with eu en1 en2
        subst eu
        clear en1 en2
        have hget : ∀ j : Nat, j < n → ∃ ad : Addr, UA = some ad ∧ wr.cell? (ad.add j) = some (.int .i64 (parAt b 0 (-1) j)) := fun j hj => by
          obtain ⟨ad, x, e, _, _, hx, hc⟩ := rdI hupr (i := j) (by rw [hpl]; exact hj)
          refine ⟨ad, e, ?_⟩
          unfold parL at hx
          rw [RouM.range_get _ hj] at hx
          obtain rfl := Option.some.inj hx
          exact hc
        obtain ⟨ad, rfl, c0⟩ := hget k (by omega)
        have HG := Lib.hid (fun j hj => (hget j hj))
        have HC0 : CRel b n k wr (.int .i64 0) (.int .i64 (parAt b 0 (-1) k)) wr := by
          by_cases hk0 : k = 0
          · subst hk0
            exact ⟨0, _, rfl, rfl, by omega, .inl ⟨par_root _ _ _, (dep_root _ _ _).symm⟩, rfl⟩
          · obtain ⟨q, nd, e1, e2, e3, e4, e5, e6, e7⟩ := par_in b ls 0 (-1) 0 k HAT.out (by omega) (by omega)
            exact ⟨0, _, rfl, rfl, by omega, .inr ⟨q, e1, by omega, by omega⟩, rfl⟩
        obtain ⟨P, hP⟩ : ∃ P, parAt b 0 (-1) k = P := ⟨_, rfl⟩
        rw [hP] at c0 HC0
        have HC0 := Lib.hid HC0
        clear hget hupr hb hP
        go_wp2_with fail
        go_loopw [6, 7] (fun m z w2 => CRel b n k wr m z w2) (fun _ z _ => (intOf z + 1).toNat)
        case atStart => exact HC0.out
        case round =>
          obtain ⟨mi, zi, rfl, rfl, hm0, hcase, rfl⟩ := hrel
          have hdk := dep_le b 0 0 k
          rcases hcase with ⟨rfl, hm⟩ | ⟨q, rfl, hq, hm⟩
          · have HM := Lib.hid hm
            clear hm hdk
            go_wp2_with (at_builtin; refine app1 wr _ rfl (.tmp 28) (.tmp 30) _ rfl eltI w1.heap.size OA ol oc ((depL b k).map (Value.int .i64)) rfl HO.out rfl rfl (by simp [Value.oneCell']) (by omega) HB.out.size ?_; intro A' cap' w' hA)
            refine ⟨⟨k + 1, A', cap', by omega, ?_, by go_num, ?_, HB.out.trans hA.below⟩, by simp [intOf]; omega⟩
            · rw [show (depL b (k + 1)).length = ol + 1 by unfold depL; simp; omega]
            · have := hA.own
              rw [show (depL b (k + 1)).length = ol + 1 by unfold depL; simp; omega, show depL b (k + 1) = depL b k ++ [mi] by rw [HM.out]; exact range_next _ _]
              simpa using this
          · have hdq := dep_le b 0 0 q
            obtain ⟨ad', e, c1⟩ := HG.out q hq
            obtain rfl := Option.some.inj e
            have HN : CRel b n k wr (.int .i64 (mi + 1)) (.int .i64 (parAt b 0 (-1) q)) wr := by
              by_cases hq0 : q = 0
              · subst hq0
                rw [dep_root] at hm
                exact ⟨_, _, rfl, rfl, by omega, .inl ⟨par_root _ _ _, by omega⟩, rfl⟩
              · obtain ⟨q', nd, e1, e2, e3, e4, e5, e6, e7⟩ := par_in b ls 0 (-1) 0 q HAT.out (by omega) (by omega)
                exact ⟨_, _, rfl, rfl, by omega, .inr ⟨q', e1, by omega, by omega⟩, rfl⟩
            have hlt : parAt b 0 (-1) q < (q : Int) ∧ -1 ≤ parAt b 0 (-1) q := by
              by_cases hq0 : q = 0
              · subst hq0
                rw [par_root]; omega
              · obtain ⟨q', nd, e1, e2, e3, e4, e5, e6, e7⟩ := par_in b ls 0 (-1) 0 q HAT.out (by omega) (by omega)
                omega
            have HN := Lib.hid HN
            obtain ⟨P2, hP2⟩ : ∃ P, parAt b 0 (-1) q = P := ⟨_, rfl⟩
            rw [hP2] at c1 HN hlt
            have hmw : mi + 1 ≤ 1000 := by omega
            clear hm hdk hdq hP2
            go_wp2_with fail
            exact ⟨HN.out, by simp [intOf]; omega⟩
  · have F := Lib.hid (vsOf_none hT)
    rw [F.out] at HI ⊢
    rw [hn]
    go_enter Tryd.func13, Tryd.ntmps13
    go_wp2_with fail
    refine (HI.out _ (below_a1 _ _)).mono ?_
    rintro e w1 ⟨⟨v, rfl, hv⟩, hb1⟩
    have HB1 := Lib.hid (bt hb1 (below_a1 w _))
    obtain ⟨UA, uc, rfl, uc1, uc2, hup, _⟩ := id hv
    rw [show (colParents []).length = 0 from rfl]
    clear hb1 hv hup
    go_wp2_with fail
    go_loopw [4, 5] (fun out i wr => out = .slice none 0 0 ∧ i = .int .i64 0 ∧ w1 = wr) (fun _ i _ => 0)
    case atStart => exact ⟨rfl, rfl, rfl⟩
    case round =>
      obtain ⟨rfl, rfl, rfl⟩ := hrel
      go_wp2_with fail
      go_ret
      exact ⟨⟨_, rfl, Seq.nil_⟩, HB1.out⟩
theorem foldmax_next {l : List Int} {k : Nat} {x : Int} (h : l[k]? = some x) : (l.take (k + 1)).foldl (fun m x => max m x) 0 = max ((l.take k).foldl (fun m x => max m x) 0) x := by
  rw [take_next h, List.foldl_append]; rfl
def MxRel (l : List Int) (n : Nat) (w : World) (m i : Value) (wr : World) : Prop := ∃ k : Nat, k ≤ n ∧ m = .int .i64 ((l.take k).foldl (fun m x => max m x) 0) ∧ i = .int .i64 k ∧ w = wr
set_option maxHeartbeats 2000000 in
set_option maxRecDepth 100000 in
theorem RDepth_any (dim : Int) (nv : Value) (ls : List Nd) (lo : Nat) (w : World) (h : Nds w lo w.heap.size nv ls) (hl7 : ls.length ≤ 1000000) :
    Calls Tryd.prog 10 #[.agg #[.int .i64 dim, nv]] w fun e w' => e = .returned (.int .i64 (mostOf (vsOf dim ls))) ∧ Below w.heap.size w w' := by
  have HI := Lib.hid (fun (W : World) (hb : Below w.heap.size w W) => RDepths_any dim nv ls lo W (h.up hb) hl7)
  obtain ⟨A, cap, rfl, hc1, hc2, _⟩ := h.form
  have F := Lib.hid (most_eq (vsOf dim ls))
  rw [show (vsOf dim ls).map (·.2.2) = colDepths (vsOf dim ls) from rfl] at F
  obtain ⟨L, hL⟩ : ∃ L, colDepths (vsOf dim ls) = L := ⟨_, rfl⟩
  rw [hL] at HI F
  obtain ⟨n, hn⟩ : ∃ n, ls.length = n := ⟨_, rfl⟩
  rw [hn] at HI hc1 hl7 ⊢
  obtain ⟨M, hM⟩ : ∃ M, mostOf (vsOf dim ls) = M := ⟨_, rfl⟩
  rw [hM] at F ⊢
  clear h hL hM
  go_enter Tryd.func10, Tryd.ntmps10
  go_wp2_with fail
  refine (HI.out _ (below_a1 _ _)).mono ?_
  rintro e w1 ⟨⟨v, rfl, hv⟩, hb1⟩
  have HB1 := Lib.hid (bt hb1 (below_a1 w _))
  obtain ⟨UA, uc, rfl, uc1, uc2, hup, _⟩ := id hv
  obtain ⟨N, hN⟩ : ∃ N, L.length = N := ⟨_, rfl⟩
  have HG := Lib.hid (fun j (hj : j < N) => rdI hup (i := j) (by rw [hN]; exact hj))
  rw [hN] at uc1 ⊢
  have H0 := Lib.hid (show MxRel L N w1 (.int .i64 0) (.int .i64 0) w1 from ⟨0, Nat.zero_le _, rfl, rfl, rfl⟩)
  clear hb1 hv hup
  unfold maxLen at uc2
  go_wp2_with fail
  go_loopw [4, 5] (fun m i wr => MxRel L N w1 m i wr) (fun _ i _ => N - (intOf i).toNat)
  case atStart => exact H0.out
  case round =>
    obtain ⟨k, hk, rfl, rfl, rfl⟩ := hrel
    by_cases hkn : k = N
    · subst hkn
      have HE := Lib.hid (show (L.take k).foldl (fun m x => max m x) 0 = M by rw [F.out, List.take_of_length_le (by omega)])
      obtain ⟨m, hm⟩ : ∃ m, (L.take k).foldl (fun m x => max m x) 0 = m := ⟨_, rfl⟩
      rw [hm] at HE ⊢
      clear hm
      go_wp2_with fail
      go_ret
      exact ⟨ret_int HE.out, HB1.out⟩
    · obtain ⟨ad, x, rfl, _, hbk, hx, c0⟩ := HG.out k (by omega)
      have HN := Lib.hid (foldmax_next hx)
      obtain ⟨m, hm⟩ : ∃ m, (L.take k).foldl (fun m x => max m x) 0 = m := ⟨_, rfl⟩
      rw [hm] at HN ⊢
      clear hm hx
      by_cases hgt : m < x
      · have hg1 : decide (m < x) = true := decide_eq_true hgt
        go_wp2_with fail
        exact ⟨⟨k + 1, by omega, by rw [HN.out, Int.max_eq_right (by omega)], by go_num, rfl⟩, by simp [intOf]; omega⟩
      · have hg1 : decide (m < x) = false := decide_eq_false hgt
        go_wp2_with fail
        exact ⟨⟨k + 1, by omega, by rw [HN.out, Int.max_eq_left (by omega)], by go_num, rfl⟩, by simp [intOf]; omega⟩
set_option maxHeartbeats 2000000 in
set_option maxRecDepth 100000 in
theorem RLeaves_any (dim : Int) (nv : Value) (ls : List Nd) (lo : Nat) (w : World) (h : Nds w lo w.heap.size nv ls) (hl7 : ls.length ≤ 1000000) :
    Calls Tryd.prog 17 #[.agg #[.int .i64 dim, nv]] w fun e w' => (∃ v, e = .returned v ∧ Seq 1 inC w' w.heap.size w'.heap.size v (colL ls (vsOf dim ls))) ∧ Below w.heap.size w w' := by
  have HS := Lib.hid h
  have HI := Lib.hid (fun (W : World) (hb : Below w.heap.size w W) => RTIs_any nv ls dim lo W (h.up hb) hl7)
  obtain ⟨A, cap, rfl, hc1, hc2, _⟩ := h.form
  obtain ⟨n, hn⟩ : ∃ n, ls.length = n := ⟨_, rfl⟩
  rw [hn] at HI HS hc1 hl7
  clear h
  by_cases hT : IsT dim ls
  · obtain ⟨_, _, b, hat, hct, _⟩ := id hT
    rw [hn] at hct
    have F := Lib.hid (leaf_eq hT hat)
    rw [hct] at F
    rw [isTB_true.2 hT] at HI
    have hn0 := (isT_len hT).1
    have hn1 := (isT_len hT).2
    rw [hn] at hn0 hn1 ⊢
    clear hat hT
    have H0 := Lib.hid (fun W (hb : Below w.heap.size w W) (hbx : Boxed2 W w.heap.size dim (.slice A n cap)) => show GRel (leafL ls) n dim (.slice A n cap) w (.slice none 0 0) (.int .i64 0) W from ⟨0, none, 0, Nat.zero_le _, rfl, rfl, own_nil _ _, hb, hbx⟩)
    go_enter Tryd.func17, Tryd.ntmps17
    go_wp2_with fail
    go_loopw [3, 4] (fun out i wr => GRel (leafL ls) n dim (.slice A n cap) w out i wr) (fun _ i _ => n - (intOf i).toNat)
    case atStart => exact H0.out _ (below_a1 _ _) (heap_alloc_new w _)
    case round =>
      obtain ⟨k, OA, oc, hk, rfl, rfl, hown, hb, hbx⟩ := hrel
      have HO := Lib.hid hown
      have HB := Lib.hid hb
      have HX := Lib.hid hbx
      obtain ⟨t0, t1⟩ := hbx.cells
      have lz := (Array.getElem?_eq_some_iff.1 hbx).1
      have hlk : (leafL ls k).length ≤ k := by unfold leafL; rw [List.length_map]; exact Nat.le_trans (List.length_filter_le _ _) (by simp)
      obtain ⟨ol, hol⟩ : ∃ ol, (leafL ls k).length = ol := ⟨_, rfl⟩
      by_cases hkn : k = n
      · subst hkn
        have HSQ := Lib.hid (gseq (w0 := w) hown (by omega))
        clear hown hb hbx
        go_wp2_with fail
        go_ret
        exact ⟨⟨_, rfl, by rw [F.out]; exact HSQ.out⟩, HB.out⟩
      · obtain ⟨nd, hnd⟩ : ∃ nd, ls[k]? = some nd := ⟨_, List.getElem?_eq_getElem (by omega)⟩
        rw [hol] at HO hlk ⊢
        clear hown hb hbx
        go_wp2_with fail
        refine (HI.out _ HB.out).mono ?_
        rintro e w2 ⟨rfl, hb2⟩
        have HB2 := Lib.hid (bt hb2 HB.out)
        have hbx2 : Boxed2 w2 w.heap.size dim (.slice A n cap) := (hb2.block _ lz).trans HX.out
        have HX2 := Lib.hid hbx2
        have HO2 := Lib.hid (own_below HO.out hb2)
        have lz2 := (Array.getElem?_eq_some_iff.1 hbx2).1
        obtain ⟨ad, cv, e1, hbk, d0, d1, d2, d3, d4, hcv⟩ := (HS.out.below HB2.out).get hnd
        subst e1
        have HN := Lib.hid (leaf_next hnd)
        clear t0 t1 hcv hnd hb2
        obtain ⟨t0, t1⟩ := hbx2.cells
        clear hbx2
        obtain ⟨nc, na, ndl, ndr, nz⟩ := nd
        dsimp only at d0 d1 d2 d3 d4 HN
        have l1 : ad.block < w2.heap.size := Nat.lt_of_lt_of_le hbk HB2.out.size
        by_cases hl : ndl = 0
        · subst hl
          rw [if_pos rfl] at HN
          go_wp2_with (at_builtin; refine app1 w2 _ rfl (.tmp 23) (.tmp 25) _ rfl eltI (w.heap.size + 1) OA ol oc ((leafL ls k).map (Value.int .i64)) rfl HO2.out rfl rfl (by simp [Value.oneCell']) (by omega) (by omega) ?_; intro A' cap' w' hA)
          have HX' := Lib.hid ((hA.below.block _ (by omega)).trans HX2.out)
          refine ⟨⟨k + 1, A', cap', by omega, ?_, by go_num, ?_, HB2.out.trans (hA.below.mono (by omega)), HX'.out⟩, by simp [intOf]; omega⟩
          · rw [HN.out, List.length_append, hol]; rfl
          · have := hA.own
            rw [HN.out, List.length_append, hol]
            simpa using this
        · have hl0 : (ndl == 0) = false := beq_eq_false_iff_ne.2 hl
          rw [if_neg hl] at HN
          go_wp2_with fail
          refine ⟨⟨k + 1, OA, oc, by omega, by rw [HN.out, hol], by go_num, by rw [HN.out, hol]; exact HO2.out, HB2.out, HX2.out⟩, by simp [intOf]; omega⟩
  · have F := Lib.hid (vsOf_none hT)
    rw [isTB_false.2 hT] at HI
    rw [hn]
    have HQ := Lib.hid (show Seq 1 inC w w.heap.size w.heap.size (.slice none 0 0) (colL ls (vsOf dim ls)) by rw [F.out]; exact Seq.nil_)
    go_enter Tryd.func17, Tryd.ntmps17
    go_wp2_with fail
    go_loopw [3, 4] (fun out i wr => out = .slice none 0 0 ∧ i = .int .i64 0 ∧ w.alloc (.cells #[.int .i64 dim, .slice A n cap] 24) = wr) (fun _ i _ => 0)
    case atStart => exact ⟨rfl, rfl, rfl⟩
    case round =>
      obtain ⟨rfl, rfl, rfl⟩ := hrel
      by_cases hn0 : n = 0
      · subst hn0
        go_wp2_with fail
        go_ret
        exact ⟨⟨_, rfl, by rw [F.out]; exact Seq.nil_⟩, below_a1 _ _⟩
      · go_wp2_with fail
        refine (HI.out _ (below_a1 _ _)).mono ?_
        rintro e w2 ⟨rfl, hb2⟩
        have HB2 := Lib.hid (bt hb2 (below_a1 w _))
        clear hb2
        go_wp2_with fail
        go_ret
        exact ⟨⟨_, rfl, by rw [F.out]; exact Seq.nil_⟩, HB2.out⟩
end Go.Proofs.YtmmgfelifmdnbaaDoor.UpW
