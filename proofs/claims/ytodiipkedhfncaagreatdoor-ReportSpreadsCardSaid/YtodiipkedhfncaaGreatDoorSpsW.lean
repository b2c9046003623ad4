/- The law ReportSpreads, walked (printed by mksps.py). -/
import Derived.Test.YtodiipkedhfncaaGreatDoorOneW
import Derived.Test.YtodiipkedhfncaaGreatDoorSprW
import Derived.Test.YtodiipkedhfncaaGreatDoorLvsW
import Derived.Test.YtodiipkedhfncaaGreatDoorRdvW
namespace Go.Proofs.YtodiipkedhfncaaGreatDoor.SpsW
set_option linter.unusedVariables false
set_option linter.unusedSimpArgs false
open Go.RowKit Base BigM BigW BigZ RptM RptO RptC SeqM WidX VecW OneW SprW SumW SpdW DevW RdvW ColW ClsW LvsW HyW RotW
open VisW hiding ret_bool

/-! ### Plainly -/
def ones (xs : List Int) : List (List Int) := xs.map fun x => [x]
theorem colK_ones (xs : List Int) : colK (ones xs) 0 = xs := by
  unfold colK ones
  rw [List.map_map]
  induction xs with
  | nil => rfl
  | cons x r ih => rw [List.map_cons, ih]; rfl
theorem cols_ones {xs : List Int} (h0 : 0 < xs.length) (h1 : xs.length ≤ 256) (hx : Nm xs) : colsL (ones xs) 1 = [colOf xs] ∧ colsE (ones xs) 1 = 0 := by
  have hl : (ones xs).length = xs.length := by simp [ones]
  have ha : allV (ones xs) 1 = true := by
    unfold allV ones
    rw [List.all_eq_true]
    intro y hy
    obtain ⟨x, hxm, rfl⟩ := List.mem_map.1 hy
    have := hx x hxm
    unfold vecB rngB
    simp
    exact this
  obtain ⟨e1, e2⟩ := cols_yes (l := ones xs) (dim := 1) (by omega) (by omega) ha
  refine ⟨?_, e2⟩
  rw [e1, show ((1 : Int).toNat) = 1 from rfl, show List.range 1 = [0] from rfl, List.map_cons, List.map_nil, colK_ones]
theorem all_same {l : List Int} {x0 : Int} (h : l[0]? = some x0) : (l.all (· == x0) = true) ↔ pairs [] l = 0 := by
  rw [zero_same (List.mem_of_getElem? h), List.all_eq_true]
  constructor
  · intro h y hy; simpa using h y hy
  · intro h y hy; simpa using h y hy
def P9 (x : Int) : Prop := -1000000000 ≤ x ∧ x ≤ 1000000000
def SpRel (l : List Int) (by_ x0 : Int) (w : World) (i a b s : Value) (wr : World) : Prop := ∃ k : Nat, k ≤ l.length ∧ i = .int .i64 k ∧ V1 wr w.heap.size a (l.take k) ∧ V1 wr w.heap.size b ((l.take k).map (· + by_)) ∧
  (∀ g, a.ownBlock = some g → b.ownBlock ≠ some g) ∧ s = .bool ((l.take k).all (· == x0)) ∧ (∀ x ∈ l.take k, P9 x) ∧ Below w.heap.size w wr
theorem eltV : Elt Tryz.prog 22 30 (.slice none 0 0) 1 24 := elt_mk (z := .slice none 0 0) Tryz.underlying22 (by kernel_rfl) rfl (by omega) (by omega)
theorem own2 (w : World) (x : Int) : (w2 w x).ownsRow (w.heap.size + 1) 30 1 (.slice (some ⟨w.heap.size + 1, 0, none⟩) 1 1) 1 [s1V w.heap.size] := by
  have h := own_one (w.alloc (.cells #[.int .i64 x] 3)) #[.slice (some ⟨w.heap.size, 0, none⟩) 1 1] 30 1 rfl
  simpa [w2, s1V] using h
theorem below_grow {w0 w w' : World} {base n : Nat} {v : Value} {x : Int} {cs : List Value} (hb : Below base w0 w) (h0 : base ≤ w0.heap.size) (hown : w.ownsRow base 30 1 v n cs) (hg : (w2 w x).grownBy w' v.ownBlock) : Below base w0 w' :=
  below_own (hb.trans ((w2_below w x).mono (Nat.le_trans h0 hb.size))) (own_below hown (w2_below w x)) hg (Nat.le_refl _) (by rw [w2_size]; have := hb.size; omega)
theorem apart_grow {a a' c : Value} {H : Nat} (h : ∀ g, a.ownBlock = some g → c.ownBlock ≠ some g) (hor : a'.ownBlock = a.ownBlock ∨ a'.ownBlock = some H) (hc : ∀ g, c.ownBlock = some g → g < H) : ∀ g, a'.ownBlock = some g → c.ownBlock ≠ some g := by
  intro g hg hcg
  rcases hor with e | e
  · exact h g (by rw [← e]; exact hg) hcg
  · rw [e] at hg
    have := hc g hcg
    cases hg
    omega
set_option maxRecDepth 100000 in
set_option maxHeartbeats 8000000 in
theorem ReportSpreads_any (v : Value) (l : List Int) (by_ : Int) (w : World) (h : Seq 1 inC w 0 w.heap.size v l) (hl : ∀ x ∈ l, I64 x) :
    Calls Tryz.prog 4 #[v, .int .i64 by_] w fun e w' => e = .returned (.bool true) ∧ Below w.heap.size w w' := by
  obtain ⟨A, cap, rfl, hc1, hc2, hr, _⟩ := h
  unfold maxLen at hc2
  have HR := Lib.hid hr
  have HL := Lib.hid hl
  obtain ⟨n, hn⟩ : ∃ n, l.length = n := ⟨_, rfl⟩
  rw [hn] at hc1 ⊢
  have HN := Lib.hid hn
  clear hr hl hn
  by_cases q0 : n = 0
  · subst q0
    go_enter Tryz.func4, Tryz.ntmps4
    go_wp2_with fail
    refine (lives_any _).mono ?_
    rintro e w1 ⟨rfl, hb1⟩
    go_wp2
    go_ret
    exact ⟨rfl, hb1⟩
  have hq0 : ((n : Int) == 0) = false := by simpa using (by omega : (n : Int) ≠ 0)
  by_cases q1 : 40 < n
  · have hq1 : (40 : Int) < (n : Int) := by omega
    go_enter Tryz.func4, Tryz.ntmps4
    go_wp2_with fail
    refine (lives_any _).mono ?_
    rintro e w1 ⟨rfl, hb1⟩
    go_wp2
    go_ret
    exact ⟨rfl, hb1⟩
  have hq1 : ¬ (40 : Int) < (n : Int) := by omega
  by_cases q2 : by_ < -1000000
  · go_enter Tryz.func4, Tryz.ntmps4
    go_wp2_with fail
    refine (lives_any _).mono ?_
    rintro e w1 ⟨rfl, hb1⟩
    go_wp2
    go_ret
    exact ⟨rfl, hb1⟩
  by_cases q3 : 1000000 < by_
  · go_enter Tryz.func4, Tryz.ntmps4
    go_wp2_with fail
    refine (lives_any _).mono ?_
    rintro e w1 ⟨rfl, hb1⟩
    go_wp2
    go_ret
    exact ⟨rfl, hb1⟩
  obtain ⟨x0, hx0⟩ : ∃ x0, l[0]? = some x0 := ⟨l[0]'(by rw [HN.out]; omega), List.getElem?_eq_getElem _⟩
  have HX0 := Lib.hid hx0
  clear hx0
  go_enter Tryz.func4, Tryz.ntmps4
  go_wp2_with fail
  go_loopw [8, 5, 6, 7] (fun i a b s wr => SpRel l by_ x0 w i a b s wr) (fun i _ _ _ _ => n - (intOf i).toNat)
  case atStart => exact ⟨0, Nat.zero_le _, rfl, by rw [List.take_zero]; exact V1.nil _ _, by rw [List.take_zero]; exact V1.nil _ _, (fun g hg => by cases hg), (by rw [List.take_zero]; rfl), (fun x hx => by simp at hx), Below.refl _ _⟩
  case round =>
    obtain ⟨k, hk, rfl, hA, hB, hAB, hs, hP, hb⟩ := hrel
    rw [HN.out] at hk
    by_cases hlt : k < n
    · obtain ⟨ad, x, rfl, _, hbk, hx, hc⟩ := rdI HR.out (i := k) (by rw [HN.out]; exact hlt)
      obtain ⟨ad2, y0, e2, _, _, hy, hc'⟩ := rdI HR.out (i := 0) (by rw [HN.out]; omega)
      obtain rfl := Option.some.inj e2
      obtain rfl : x0 = y0 := by rw [HX0.out] at hy; exact Option.some.inj hy
      have HCE := Lib.hid (fun W (hw : Below w.heap.size w W) => (And.intro ((hw.cell (p := ad.add k) (by rw [Base.add_block]; exact hbk)).trans hc) ((hw.cell (p := ad.add 0) (by rw [Base.add_block]; exact hbk)).trans hc')))
      have HX := Lib.hid hx
      have HA := Lib.hid hA
      have HB := Lib.hid hB
      have HAB := Lib.hid hAB
      have HP := Lib.hid hP
      have HW := Lib.hid hb
      obtain ⟨c0, -⟩ := HCE.out wr hb
      clear hA hB hAB hP hb hx hy hc hc'
      by_cases p1 : x < -1000000000
      · go_wp2_with fail
        refine (lives_any _).mono ?_
        rintro e w1 ⟨rfl, hb1⟩
        go_wp2
        go_ret
        exact ⟨rfl, bt hb1 HW.out⟩
      by_cases p2 : 1000000000 < x
      · go_wp2_with fail
        refine (lives_any _).mono ?_
        rintro e w1 ⟨rfl, hb1⟩
        go_wp2
        go_ret
        exact ⟨rfl, bt hb1 HW.out⟩
      have HPX := Lib.hid (show P9 x from ⟨by omega, by omega⟩)
      have HTK := Lib.hid (take_next HX.out)
      have hlt40 : (l.take k).length + 1 ≤ 1073741824 := by rw [List.length_take]; omega
      have hlt41 : ((l.take k).map (· + by_)).length + 1 ≤ 1073741824 := by rw [List.length_map]; exact hlt40
      have hbw : w.heap.size ≤ wr.heap.size := HW.out.size
      have hx64 := HL.out x (List.mem_of_getElem? HX.out)
      have hsx : IntKind.i64.wrap (x + by_) = x + by_ := IntWalk.i64_in _ (by omega)
      go_wp2_with (at_builtin; first
        | (refine listL rfl (.tmp 50) (.tmp 56) _ rfl eltV w.heap.size (wr.heap.size + 1) _ _ _ 1 _ _ rfl ((((Classical.choose_spec HA.out).2.1).alloc _).alloc _) rfl (own2 wr x) (by simp [s1V, Value.oneCell']) (by omega) hlt40 (by simp; omega) ?_
           intro a' w3 hown3 hg3 hor3
           have HA3 := Lib.hid (V1.grow HA.out hown3 hg3)
           have HB3 := Lib.hid (V1.stay (HB.out.below (w2_below wr x)) (own_below (Classical.choose_spec HA.out).2.1 (w2_below wr x)) hg3 (fun g hb ha => HAB.out g ha hb))
           have HAB3 := Lib.hid (apart_grow (c := u6) HAB.out hor3 (fun g hg => Nat.lt_of_lt_of_le (HB.out.own_lt g hg) (w2_below wr x).size))
           have HW3 := Lib.hid (below_grow HW.out (Nat.le_refl _) (Classical.choose_spec HA.out).2.1 hg3)
           have d0 := (HCE.out w3 HW3.out).1
           have hz3 := HW3.out.size
           clear hown3 hg3 hor3)
        | (refine listL rfl (.tmp 58) (.tmp 66) _ rfl eltV w.heap.size (w3.heap.size + 1) _ _ _ 1 _ _ rfl ((((Classical.choose_spec HB3.out).2.1).alloc _).alloc _) rfl (own2 w3 (x + by_)) (by simp [s1V, Value.oneCell']) (by omega) hlt41 (by simp; omega) ?_
           intro b' w4 hown4 hg4 hor4
           have HB4 := Lib.hid (V1.grow HB3.out hown4 hg4)
           have HA4 := Lib.hid (V1.stay (HA3.out.below (w2_below w3 (x + by_))) (own_below (Classical.choose_spec HB3.out).2.1 (w2_below w3 (x + by_))) hg4 (fun g ha hb => HAB3.out g ha hb))
           have HAB4 := Lib.hid (fun g (ha : Value.ownBlock a' = some g) (hb : Value.ownBlock b' = some g) => apart_grow (c := a') (fun g hb ha => HAB3.out g ha hb) hor4 (fun g hg => Nat.lt_of_lt_of_le (HA3.out.own_lt g hg) (w2_below w3 (x + by_)).size) g hb ha)
           have HW4 := Lib.hid (below_grow HW3.out (Nat.le_refl _) (Classical.choose_spec HB3.out).2.1 hg4)
           clear hown4 hg4 hor4))
      have HAN := Lib.hid (VisW.all_next HX.out (fun y : Int => y == x0))
      have HPN := Lib.hid (show ∀ y ∈ l.take (k + 1), P9 y by
        rw [HTK.out]
        intro y hy
        rcases List.mem_append.1 hy with hy | hy
        · exact HP.out y hy
        · rw [List.mem_singleton.1 hy]; exact HPX.out)
      have HMT := Lib.hid (show (l.take (k + 1)).map (· + by_) = (l.take k).map (· + by_) ++ [x + by_] by rw [HTK.out, List.map_append]; rfl)
      have had : ad.add 0 = ad := by unfold Addr.add; simp
      clear c0
      obtain ⟨c0, c1⟩ := HCE.out w4 HW4.out
      rw [had] at c1
      cases hfl : (l.take k).all (· == x0)
      · have HNX := Lib.hid (show (l.take (k + 1)).all (· == x0) = false by rw [HAN.out, hfl]; rfl)
        clear hfl
        go_quiet (fail)
        go_wp2_with fail
        exact ⟨⟨k + 1, by rw [HN.out]; omega, by go_num, by rw [HTK.out]; exact HA4.out.below (below_drewN (Below.refl _ w4) nq), by rw [HMT.out]; exact HB4.out.below (below_drewN (Below.refl _ w4) nq), HAB4.out, by rw [HNX.out], HPN.out, below_drewN HW4.out nq⟩, by simp [intOf]; omega⟩
      · have HNX := Lib.hid (show (l.take (k + 1)).all (· == x0) = (x == x0) by rw [HAN.out, hfl]; simp)
        clear hfl
        go_quiet (fail)
        go_wp2_with fail
        exact ⟨⟨k + 1, by rw [HN.out]; omega, by go_num, by rw [HTK.out]; exact HA4.out.below (below_drewN (Below.refl _ w4) nq), by rw [HMT.out]; exact HB4.out.below (below_drewN (Below.refl _ w4) nq), HAB4.out, by rw [HNX.out], HPN.out, below_drewN HW4.out nq⟩, by simp [intOf]; omega⟩
    · have hkn : k = n := by omega
      subst hkn
      rw [List.take_of_length_le (by rw [HN.out]; omega)] at hA hB hs hP
      subst hs
      have hNm : Nm l := fun x hx => by have := hP x hx; unfold P9 at this; omega
      have hNy : Nm (l.map (· + by_)) := fun y hy => by
        obtain ⟨x, hx, rfl⟩ := List.mem_map.1 hy
        have := hP x hx
        unfold P9 at this
        omega
      have hlen := HN.out
      have hleny : (l.map (· + by_)).length = k := by rw [List.length_map]; exact hlen
      have HCA := Lib.hid (Columns_any u5 (ones l) 1 0 wr hA.vecs)
      have HCB := Lib.hid (fun W (hw : Below wr.heap.size wr W) => Columns_any u6 (ones (l.map (· + by_))) 1 0 W (hB.below hw).vecs)
      unfold ClPost at HCA HCB
      rw [(cols_ones (xs := l) (by omega) (by omega) hNm).1, (cols_ones (xs := l) (by omega) (by omega) hNm).2] at HCA
      rw [(cols_ones (xs := l.map (· + by_)) (by omega) (by omega) hNy).1, (cols_ones (xs := l.map (· + by_)) (by omega) (by omega) hNy).2] at HCB
      have hmid := mid_move by_ (l := l) (fun e => by rw [e] at hlen; simp at hlen; omega)
      have hpm := pairs_moved by_ l
      have HSM := Lib.hid (all_same HX0.out)
      have hmb : I64 ((sortR l).getD ((l.length + 1) / 2 - 1) 0) := by
        have h1 : (l.length + 1) / 2 - 1 < (sortR l).length := by rw [sortR_length]; omega
        rw [List.getD_eq_getElem?_getD, List.getElem?_eq_getElem h1]
        have := hNm _ ((sortR_perm l).mem_iff.1 (List.getElem_mem h1))
        unfold I64
        simp only [Option.getD_some]
        omega
      have hmb2 : -2147483648 ≤ (sortR l).getD ((l.length + 1) / 2 - 1) 0 ∧ (sortR l).getD ((l.length + 1) / 2 - 1) 0 ≤ 2147483647 := by
        have h1 : (l.length + 1) / 2 - 1 < (sortR l).length := by rw [sortR_length]; omega
        rw [List.getD_eq_getElem?_getD, List.getElem?_eq_getElem h1]
        have := hNm _ ((sortR_perm l).mem_iff.1 (List.getElem_mem h1))
        simp only [Option.getD_some]
        omega
      have hsb := (spread_bd hNm (by omega)).1
      have HRS := Lib.hid (fun W (hw : Below w.heap.size w W) => RSpread_any (.slice A k cap) l W (by rw [← hlen]; exact (show Seq 1 inC w 0 w.heap.size (.slice A l.length cap) l from ⟨A, cap, rfl, by rw [hlen]; exact hc1, by unfold maxLen; exact hc2, HR.out, ‹_›⟩).up hw) hNm (by omega))
      unfold colOf at HCA HCB
      try dsimp only at HCA HCB
      rw [hpm, hmid] at HCB
      have HRB := Lib.hid (fun W => RBig_any (pairs [] l) (by unfold Spr; omega) W)
      have HWD := Lib.hid (fun z (e : pairs [] l = z) => (wide_zero (z := z) (by omega)))
      clear hmid hpm hmb hlen hleny hNm hNy hP hA hB hAB
      generalize (sortR l).getD ((l.length + 1) / 2 - 1) 0 = m at *
      generalize pairs [] l = p at *
      generalize l.all (· == x0) = sm at *
      go_wp2_with fail
      refine HCA.out.mono ?_
      rintro e w1 ⟨⟨v1, rfl, hv1⟩, hb1⟩
      obtain ⟨g1, k1, rfl, hc1'⟩ := row_cells hv1 (Nat.zero_lt_one)
      have HW1 := Lib.hid (bt hb1 hb)
      have HB1 := Lib.hid hb1
      have HG1 := Lib.hid (And.intro (hc1' 2 _ rfl) (And.intro (hc1' 4 _ rfl) (hc1' 5 _ rfl)))
      clear hv1 hc1' HCA hb1 hb
      go_wp2_with fail
      refine (HCB.out w1 HB1.out).mono ?_
      rintro e w2' ⟨⟨v2, rfl, hv2⟩, hb2⟩
      obtain ⟨g2, k2, rfl, hc2'⟩ := row_cells hv2 (Nat.zero_lt_one)
      have HW2 := Lib.hid (bt hb2 HW1.out)
      have HG2 := Lib.hid (And.intro (hc2' 2 _ rfl) (And.intro (hc2' 4 _ rfl) (hc2' 5 _ rfl)))
      replace HG1 := Lib.hid (And.intro (keepA hb2 HG1.out.1) (And.intro (keepA hb2 HG1.out.2.1) (keepA hb2 HG1.out.2.2)))
      clear hv2 hc2' HCB hb2
      obtain ⟨y2, y4, y5⟩ := HG1.out
      dsimp only [List.length_cons, List.length_nil]
      obtain ⟨hi, eh⟩ : ∃ hi, hiW p = hi := ⟨_, rfl⟩
      obtain ⟨lo, el⟩ : ∃ lo, loW p = lo := ⟨_, rfl⟩
      rw [eh] at y4 HG1 HG2
      rw [el] at y5 HG1 HG2
      have HPV := Lib.hid (show WV p = .agg #[.int .u64 hi, .int .u64 lo] by unfold WV; rw [eh, el])
      rw [HPV.out] at HRB
      have hwd := wide_zero hsb.1
      rw [eh, el] at hwd
      have hsm := HSM.out
      have hp0 := hsb.1
      clear eh el hsb y2
      have hoo : ord p p = 0 := by unfold ord; rw [if_neg (by omega), if_neg (by omega)]
      have hwm : IntKind.i64.wrap (m + by_) = m + by_ := IntWalk.i64_in _ (by omega)
      by_cases z1 : hi = 0
      · by_cases z2 : lo = 0
        · have hsm1 : sm = true := hsm.2 (hwd.1 ⟨z1, z2⟩)
          subst z1 z2 hsm1
          clear hsm hwd HSM HWD
          go_wp2_with fail
          have HCS := Lib.hid (show ∀ W, Below w2'.heap.size w2' W → ((W.cell? ⟨g1, 2, none⟩ = some (.int .i64 m) ∧ W.cell? ⟨g1, 4, none⟩ = some (.int .u64 0) ∧ W.cell? ⟨g1, 5, none⟩ = some (.int .u64 0)) ∧ (W.cell? ⟨g2, 2, none⟩ = some (.int .i64 (m + by_)) ∧ W.cell? ⟨g2, 4, none⟩ = some (.int .u64 0) ∧ W.cell? ⟨g2, 5, none⟩ = some (.int .u64 0))) from fun W hw => ⟨⟨keepA hw HG1.out.1, keepA hw HG1.out.2.1, keepA hw HG1.out.2.2⟩, keepA hw HG2.out.1, keepA hw HG2.out.2.1, keepA hw HG2.out.2.2⟩)
          refine regionZ 41 (fun w' => (w'.cell? ⟨g1, 2, none⟩ = some (.int .i64 m) ∧ w'.cell? ⟨g1, 4, none⟩ = some (.int .u64 0) ∧ w'.cell? ⟨g1, 5, none⟩ = some (.int .u64 0)) ∧ (w'.cell? ⟨g2, 2, none⟩ = some (.int .i64 (m + by_)) ∧ w'.cell? ⟨g2, 4, none⟩ = some (.int .u64 0) ∧ w'.cell? ⟨g2, 5, none⟩ = some (.int .u64 0))) (by kernel_rfl) (HCS.out _ (Below.refl _ w2').drew) (fun hH => ?_)
          refine takeZ 0 (v := ?_) (gi rfl) (by kernel_rfl) (fun _ _ _ h => h) hH (.inl ⟨rfl, fun w hW => ?_⟩) ?_
          rotate_left
          · (go_simp; try with_reducible rfl)
          try simp only [Act.put, List.setIfInBounds_toArray, List.set_cons_zero, List.set_cons_succ]
          refine takeZ 1 (v := ?_) (gi rfl) (by kernel_rfl) (fun _ _ _ h => h) hH (.inl ⟨rfl, fun w hW => ?_⟩) ?_
          rotate_left
          · (go_simp; try with_reducible rfl)
          try simp only [Act.put, List.setIfInBounds_toArray, List.set_cons_zero, List.set_cons_succ]
          refine takeZ 2 (v := ?_) (gi rfl) (by kernel_rfl) (fun _ _ _ h => h) hH (.inl ⟨rfl, fun w hW => ?_⟩) ?_
          rotate_left
          · (go_simp; try with_reducible rfl)
          try simp only [Act.put, List.setIfInBounds_toArray, List.set_cons_zero, List.set_cons_succ]
          refine takeZ 3 (v := ?_) (gi rfl) (by kernel_rfl) (fun _ _ _ h => h) hH (.inl ⟨rfl, fun w hW => ?_⟩) ?_
          rotate_left
          · (obtain ⟨⟨hW1, hW2, hW3⟩, hW4, hW5, hW6⟩ := hW; go_simp; try with_reducible rfl)
          try simp only [Act.put, List.setIfInBounds_toArray, List.set_cons_zero, List.set_cons_succ]
          refine takeZ 5 (v := ?_) (gi rfl) (by kernel_rfl) (fun _ _ _ h => h) hH (.inl ⟨rfl, fun w hW => ?_⟩) ?_
          rotate_left
          · (go_simp; try with_reducible rfl)
          try simp only [Act.put, List.setIfInBounds_toArray, List.set_cons_zero, List.set_cons_succ]
          refine oneZ 4 (by kernel_rfl) (gi rfl) (fun K hK => ?_)
          try simp only [Act.put, List.setIfInBounds_toArray, List.set_cons_zero, List.set_cons_succ]
          go_simp
          refine (HRB.out _).mono ?_
          rintro e x1 ⟨⟨o1, rfl, ho1⟩, hb3⟩
          have HO1 := Lib.hid ho1
          have HK1 := Lib.hid (show Below w2'.heap.size w2' x1 from bt hb3 (Below.refl _ w2').drew)
          clear ho1 hb3
          refine hK.out _ _ (fun _ => HCS.out _ HK1.out) (fun hH => ?_)
          replace hH := hH (by decide)
          clear hK K
          try simp only [Act.put, List.setIfInBounds_toArray, List.set_cons_zero, List.set_cons_succ]
          refine oneZ 6 (by kernel_rfl) (gi rfl) (fun K hK => ?_)
          try simp only [Act.put, List.setIfInBounds_toArray, List.set_cons_zero, List.set_cons_succ]
          go_simp
          refine (HRS.out _ (bt HK1.out HW2.out)).mono ?_
          rintro e x2 ⟨⟨o2, rfl, ho2⟩, hb3⟩
          have HO2 := Lib.hid ho2
          replace HO1 := Lib.hid (HO1.out.up hb3)
          have HK2 := Lib.hid (show Below w2'.heap.size w2' x2 from bt hb3 HK1.out)
          clear ho2 hb3
          refine hK.out _ _ (fun _ => HCS.out _ HK2.out) (fun hH => ?_)
          replace hH := hH (by decide)
          clear hK K
          try simp only [Act.put, List.setIfInBounds_toArray, List.set_cons_zero, List.set_cons_succ]
          refine oneZ 7 (by kernel_rfl) (gi rfl) (fun K hK => ?_)
          try simp only [Act.put, List.setIfInBounds_toArray, List.set_cons_zero, List.set_cons_succ]
          go_simp
          refine (Order_any _ _ _ _ _ _ _ (HO1.out.more (Nat.zero_le _) (Nat.le_refl _) (Nat.le_refl _)) HO2.out (by omega) (by omega)).mono ?_
          rintro e x3 ⟨rfl, q4, rfl⟩
          have HK3 := Lib.hid (show Below w2'.heap.size w2' (x2.drewN q4) from below_drewN HK2.out q4)
          refine hK.out _ _ (fun _ => HCS.out _ HK3.out) (fun hH => ?_)
          replace hH := hH (by decide)
          clear hK K
          try simp only [Act.put, List.setIfInBounds_toArray, List.set_cons_zero, List.set_cons_succ]
          refine takeZ 8 (v := ?_) (gi rfl) (by kernel_rfl) (fun _ _ _ h => h) hH (.inl ⟨rfl, fun w hW => ?_⟩) ?_
          rotate_left
          · (go_simp; try with_reducible rfl)
          try simp only [Act.put, List.setIfInBounds_toArray, List.set_cons_zero, List.set_cons_succ]
          refine takeZ 9 (v := ?_) (gi rfl) (by kernel_rfl) (fun _ _ _ h => h) hH (.inl ⟨rfl, fun w hW => ?_⟩) ?_
          rotate_left
          · (go_simp; try with_reducible rfl)
          try simp only [Act.put, List.setIfInBounds_toArray, List.set_cons_zero, List.set_cons_succ]
          refine takeZ 10 (v := ?_) (gi rfl) (by kernel_rfl) (fun _ _ _ h => h) hH (.inl ⟨rfl, fun w hW => ?_⟩) ?_
          rotate_left
          · (go_simp; try with_reducible rfl)
          try simp only [Act.put, List.setIfInBounds_toArray, List.set_cons_zero, List.set_cons_succ]
          refine takeZ 11 (v := ?_) (gi rfl) (by kernel_rfl) (fun _ _ _ h => h) hH (.inl ⟨rfl, fun w hW => ?_⟩) ?_
          rotate_left
          · (go_simp; try with_reducible rfl)
          try simp only [Act.put, List.setIfInBounds_toArray, List.set_cons_zero, List.set_cons_succ]
          refine takeZ 12 (v := ?_) (gi rfl) (by kernel_rfl) (fun _ _ _ h => h) hH (.inl ⟨rfl, fun w hW => ?_⟩) ?_
          rotate_left
          · (go_simp; try with_reducible rfl)
          try simp only [Act.put, List.setIfInBounds_toArray, List.set_cons_zero, List.set_cons_succ]
          refine takeZ 13 (v := ?_) (gi rfl) (by kernel_rfl) (fun _ _ _ h => h) hH (.inl ⟨rfl, fun w hW => ?_⟩) ?_
          rotate_left
          · (obtain ⟨⟨hW1, hW2, hW3⟩, hW4, hW5, hW6⟩ := hW; go_simp; try with_reducible rfl)
          try simp only [Act.put, List.setIfInBounds_toArray, List.set_cons_zero, List.set_cons_succ]
          refine takeZ 14 (v := ?_) (gi rfl) (by kernel_rfl) (fun _ _ _ h => h) hH (.inl ⟨rfl, fun w hW => ?_⟩) ?_
          rotate_left
          · (go_simp; try with_reducible rfl)
          try simp only [Act.put, List.setIfInBounds_toArray, List.set_cons_zero, List.set_cons_succ]
          refine takeZ 15 (v := ?_) (gi rfl) (by kernel_rfl) (fun _ _ _ h => h) hH (.inl ⟨rfl, fun w hW => ?_⟩) ?_
          rotate_left
          · (go_simp; try with_reducible rfl)
          try simp only [Act.put, List.setIfInBounds_toArray, List.set_cons_zero, List.set_cons_succ]
          refine takeZ 16 (v := ?_) (gi rfl) (by kernel_rfl) (fun _ _ _ h => h) hH (.inl ⟨rfl, fun w hW => ?_⟩) ?_
          rotate_left
          · (go_simp; try with_reducible rfl)
          try simp only [Act.put, List.setIfInBounds_toArray, List.set_cons_zero, List.set_cons_succ]
          refine takeZ 17 (v := ?_) (gi rfl) (by kernel_rfl) (fun _ _ _ h => h) hH (.inl ⟨rfl, fun w hW => ?_⟩) ?_
          rotate_left
          · (obtain ⟨⟨hW1, hW2, hW3⟩, hW4, hW5, hW6⟩ := hW; go_simp; try with_reducible rfl)
          try simp only [Act.put, List.setIfInBounds_toArray, List.set_cons_zero, List.set_cons_succ]
          refine takeZ 18 (v := ?_) (gi rfl) (by kernel_rfl) (fun _ _ _ h => h) hH (.inl ⟨rfl, fun w hW => ?_⟩) ?_
          rotate_left
          · (go_simp; try with_reducible rfl)
          try simp only [Act.put, List.setIfInBounds_toArray, List.set_cons_zero, List.set_cons_succ]
          refine takeZ 19 (v := ?_) (gi rfl) (by kernel_rfl) (fun _ _ _ h => h) hH (.inl ⟨rfl, fun w hW => ?_⟩) ?_
          rotate_left
          · (go_simp; try with_reducible rfl)
          try simp only [Act.put, List.setIfInBounds_toArray, List.set_cons_zero, List.set_cons_succ]
          refine takeZ 20 (v := ?_) (gi rfl) (by kernel_rfl) (fun _ _ _ h => h) hH (.inl ⟨rfl, fun w hW => ?_⟩) ?_
          rotate_left
          · (go_simp; try with_reducible rfl)
          try simp only [Act.put, List.setIfInBounds_toArray, List.set_cons_zero, List.set_cons_succ]
          refine takeZ 21 (v := ?_) (gi rfl) (by kernel_rfl) (fun _ _ _ h => h) hH (.inl ⟨rfl, fun w hW => ?_⟩) ?_
          rotate_left
          · (go_simp; try with_reducible rfl)
          try simp only [Act.put, List.setIfInBounds_toArray, List.set_cons_zero, List.set_cons_succ]
          refine takeZ 22 (v := ?_) (gi rfl) (by kernel_rfl) (fun _ _ _ h => h) hH (.inl ⟨rfl, fun w hW => ?_⟩) ?_
          rotate_left
          · (go_simp; try with_reducible rfl)
          try simp only [Act.put, List.setIfInBounds_toArray, List.set_cons_zero, List.set_cons_succ]
          refine takeZ 23 (v := ?_) (gi rfl) (by kernel_rfl) (fun _ _ _ h => h) hH (.inl ⟨rfl, fun w hW => ?_⟩) ?_
          rotate_left
          · (go_simp; try with_reducible rfl)
          try simp only [Act.put, List.setIfInBounds_toArray, List.set_cons_zero, List.set_cons_succ]
          refine takeZ 24 (v := ?_) (gi rfl) (by kernel_rfl) (fun _ _ _ h => h) hH (.inl ⟨rfl, fun w hW => ?_⟩) ?_
          rotate_left
          · (go_simp; try with_reducible rfl)
          try simp only [Act.put, List.setIfInBounds_toArray, List.set_cons_zero, List.set_cons_succ]
          refine takeZ 25 (v := ?_) (gi rfl) (by kernel_rfl) (fun _ _ _ h => h) hH (.inl ⟨rfl, fun w hW => ?_⟩) ?_
          rotate_left
          · (go_simp; try with_reducible rfl)
          try simp only [Act.put, List.setIfInBounds_toArray, List.set_cons_zero, List.set_cons_succ]
          refine takeZ 26 (v := ?_) (gi rfl) (by kernel_rfl) (fun _ _ _ h => h) hH (.inl ⟨rfl, fun w hW => ?_⟩) ?_
          rotate_left
          · (go_simp; try with_reducible rfl)
          try simp only [Act.put, List.setIfInBounds_toArray, List.set_cons_zero, List.set_cons_succ]
          refine takeZ 27 (v := ?_) (gi rfl) (by kernel_rfl) (fun _ _ _ h => h) hH (.inl ⟨rfl, fun w hW => ?_⟩) ?_
          rotate_left
          · (go_simp; try with_reducible rfl)
          try simp only [Act.put, List.setIfInBounds_toArray, List.set_cons_zero, List.set_cons_succ]
          refine takeZ 28 (v := ?_) (gi rfl) (by kernel_rfl) (fun _ _ _ h => h) hH (.inl ⟨rfl, fun w hW => ?_⟩) ?_
          rotate_left
          · (go_simp; try with_reducible rfl)
          try simp only [Act.put, List.setIfInBounds_toArray, List.set_cons_zero, List.set_cons_succ]
          refine takeZ 29 (v := ?_) (gi rfl) (by kernel_rfl) (fun _ _ _ h => h) hH (.inl ⟨rfl, fun w hW => ?_⟩) ?_
          rotate_left
          · (obtain ⟨⟨hW1, hW2, hW3⟩, hW4, hW5, hW6⟩ := hW; go_simp; try with_reducible rfl)
          try simp only [Act.put, List.setIfInBounds_toArray, List.set_cons_zero, List.set_cons_succ]
          refine takeZ 30 (v := ?_) (gi rfl) (by kernel_rfl) (fun _ _ _ h => h) hH (.inl ⟨rfl, fun w hW => ?_⟩) ?_
          rotate_left
          · (go_simp; try with_reducible rfl)
          try simp only [Act.put, List.setIfInBounds_toArray, List.set_cons_zero, List.set_cons_succ]
          refine takeZ 31 (v := ?_) (gi rfl) (by kernel_rfl) (fun _ _ _ h => h) hH (.inl ⟨rfl, fun w hW => ?_⟩) ?_
          rotate_left
          · (go_simp; try with_reducible rfl)
          try simp only [Act.put, List.setIfInBounds_toArray, List.set_cons_zero, List.set_cons_succ]
          refine takeZ 32 (v := ?_) (gi rfl) (by kernel_rfl) (fun _ _ _ h => h) hH (.inl ⟨rfl, fun w hW => ?_⟩) ?_
          rotate_left
          · (go_simp; try with_reducible rfl)
          try simp only [Act.put, List.setIfInBounds_toArray, List.set_cons_zero, List.set_cons_succ]
          refine takeZ 33 (v := ?_) (gi rfl) (by kernel_rfl) (fun _ _ _ h => h) hH (.inl ⟨rfl, fun w hW => ?_⟩) ?_
          rotate_left
          · (obtain ⟨⟨hW1, hW2, hW3⟩, hW4, hW5, hW6⟩ := hW; go_simp; try with_reducible rfl)
          try simp only [Act.put, List.setIfInBounds_toArray, List.set_cons_zero, List.set_cons_succ]
          refine takeZ 34 (v := ?_) (gi rfl) (by kernel_rfl) (fun _ _ _ h => h) hH (.inl ⟨rfl, fun w hW => ?_⟩) ?_
          rotate_left
          · (go_simp; try with_reducible rfl)
          try simp only [Act.put, List.setIfInBounds_toArray, List.set_cons_zero, List.set_cons_succ]
          refine takeZ 35 (v := ?_) (gi rfl) (by kernel_rfl) (fun _ _ _ h => h) hH (.inl ⟨rfl, fun w hW => ?_⟩) ?_
          rotate_left
          · (go_simp; try with_reducible rfl)
          try simp only [Act.put, List.setIfInBounds_toArray, List.set_cons_zero, List.set_cons_succ]
          refine takeZ 36 (v := ?_) (gi rfl) (by kernel_rfl) (fun _ _ _ h => h) hH (.inl ⟨rfl, fun w hW => ?_⟩) ?_
          rotate_left
          · (go_simp; try with_reducible rfl)
          try simp only [Act.put, List.setIfInBounds_toArray, List.set_cons_zero, List.set_cons_succ]
          refine takeZ 37 (v := ?_) (gi rfl) (by kernel_rfl) (fun _ _ _ h => h) hH (.inl ⟨rfl, fun w hW => ?_⟩) ?_
          rotate_left
          · (go_simp; try with_reducible rfl)
          try simp only [Act.put, List.setIfInBounds_toArray, List.set_cons_zero, List.set_cons_succ]
          refine takeZ 38 (v := ?_) (gi rfl) (by kernel_rfl) (fun _ _ _ h => h) hH (.inl ⟨rfl, fun w hW => ?_⟩) ?_
          rotate_left
          · (go_simp; try with_reducible rfl)
          try simp only [Act.put, List.setIfInBounds_toArray, List.set_cons_zero, List.set_cons_succ]
          refine oneZ 39 (by kernel_rfl) (gi rfl) (fun K hK => ?_)
          try simp only [Act.put, List.setIfInBounds_toArray, List.set_cons_zero, List.set_cons_succ]
          go_simp
          refine (lives_any _).mono ?_
          rintro e x4 ⟨rfl, hb4⟩
          have HK4 := Lib.hid (show Below w2'.heap.size w2' x4 from bt hb4 HK3.out)
          clear hb4
          refine hK.out _ _ (fun _ => HCS.out _ HK4.out) (fun hH => ?_)
          replace hH := hH (by decide)
          clear hK K
          try simp only [Act.put, List.setIfInBounds_toArray, List.set_cons_zero, List.set_cons_succ]
          refine takeZ 40 (v := ?_) (gi rfl) (by kernel_rfl) (fun _ _ _ h => h) hH (.inl ⟨rfl, fun w hW => ?_⟩) ?_
          rotate_left
          · (go_simp; try with_reducible rfl)
          try simp only [Act.put, List.setIfInBounds_toArray, List.set_cons_zero, List.set_cons_succ]
          refine yieldZ 41 (v := ?_) (by kernel_rfl) (gi rfl) hH (.inl ⟨rfl, fun w hW => ?_⟩) ?_
          rotate_left
          · (go_simp; try with_reducible rfl)
          try simp only [Act.put, List.setIfInBounds_toArray, List.set_cons_zero, List.set_cons_succ]
          refine doneZ (by kernel_rfl) ?_ _
          clear hH
          go_wp2_with fail
          go_ret
          exact ⟨rfl, bt HK4.out HW2.out⟩
        · have hsm1 : sm = false := by
            cases sm
            · rfl
            · exact absurd (hwd.2 (hsm.1 rfl)).2 z2
          subst z1 hsm1
          clear hsm hwd HSM HWD
          go_wp2_with fail
          have HCS := Lib.hid (show ∀ W, Below w2'.heap.size w2' W → ((W.cell? ⟨g1, 2, none⟩ = some (.int .i64 m) ∧ W.cell? ⟨g1, 4, none⟩ = some (.int .u64 0) ∧ W.cell? ⟨g1, 5, none⟩ = some (.int .u64 lo)) ∧ (W.cell? ⟨g2, 2, none⟩ = some (.int .i64 (m + by_)) ∧ W.cell? ⟨g2, 4, none⟩ = some (.int .u64 0) ∧ W.cell? ⟨g2, 5, none⟩ = some (.int .u64 lo))) from fun W hw => ⟨⟨keepA hw HG1.out.1, keepA hw HG1.out.2.1, keepA hw HG1.out.2.2⟩, keepA hw HG2.out.1, keepA hw HG2.out.2.1, keepA hw HG2.out.2.2⟩)
          refine regionZ 41 (fun w' => (w'.cell? ⟨g1, 2, none⟩ = some (.int .i64 m) ∧ w'.cell? ⟨g1, 4, none⟩ = some (.int .u64 0) ∧ w'.cell? ⟨g1, 5, none⟩ = some (.int .u64 lo)) ∧ (w'.cell? ⟨g2, 2, none⟩ = some (.int .i64 (m + by_)) ∧ w'.cell? ⟨g2, 4, none⟩ = some (.int .u64 0) ∧ w'.cell? ⟨g2, 5, none⟩ = some (.int .u64 lo))) (by kernel_rfl) (HCS.out _ (Below.refl _ w2').drew) (fun hH => ?_)
          refine takeZ 0 (v := ?_) (gi rfl) (by kernel_rfl) (fun _ _ _ h => h) hH (.inl ⟨rfl, fun w hW => ?_⟩) ?_
          rotate_left
          · (go_simp; try with_reducible rfl)
          try simp only [Act.put, List.setIfInBounds_toArray, List.set_cons_zero, List.set_cons_succ]
          refine takeZ 1 (v := ?_) (gi rfl) (by kernel_rfl) (fun _ _ _ h => h) hH (.inl ⟨rfl, fun w hW => ?_⟩) ?_
          rotate_left
          · (go_simp; try with_reducible rfl)
          try simp only [Act.put, List.setIfInBounds_toArray, List.set_cons_zero, List.set_cons_succ]
          refine takeZ 2 (v := ?_) (gi rfl) (by kernel_rfl) (fun _ _ _ h => h) hH (.inl ⟨rfl, fun w hW => ?_⟩) ?_
          rotate_left
          · (go_simp; try with_reducible rfl)
          try simp only [Act.put, List.setIfInBounds_toArray, List.set_cons_zero, List.set_cons_succ]
          refine takeZ 3 (v := ?_) (gi rfl) (by kernel_rfl) (fun _ _ _ h => h) hH (.inl ⟨rfl, fun w hW => ?_⟩) ?_
          rotate_left
          · (obtain ⟨⟨hW1, hW2, hW3⟩, hW4, hW5, hW6⟩ := hW; go_simp; try with_reducible rfl)
          try simp only [Act.put, List.setIfInBounds_toArray, List.set_cons_zero, List.set_cons_succ]
          refine takeZ 5 (v := ?_) (gi rfl) (by kernel_rfl) (fun _ _ _ h => h) hH (.inl ⟨rfl, fun w hW => ?_⟩) ?_
          rotate_left
          · (go_simp; try with_reducible rfl)
          try simp only [Act.put, List.setIfInBounds_toArray, List.set_cons_zero, List.set_cons_succ]
          refine oneZ 4 (by kernel_rfl) (gi rfl) (fun K hK => ?_)
          try simp only [Act.put, List.setIfInBounds_toArray, List.set_cons_zero, List.set_cons_succ]
          go_simp
          refine (HRB.out _).mono ?_
          rintro e x1 ⟨⟨o1, rfl, ho1⟩, hb3⟩
          have HO1 := Lib.hid ho1
          have HK1 := Lib.hid (show Below w2'.heap.size w2' x1 from bt hb3 (Below.refl _ w2').drew)
          clear ho1 hb3
          refine hK.out _ _ (fun _ => HCS.out _ HK1.out) (fun hH => ?_)
          replace hH := hH (by decide)
          clear hK K
          try simp only [Act.put, List.setIfInBounds_toArray, List.set_cons_zero, List.set_cons_succ]
          refine oneZ 6 (by kernel_rfl) (gi rfl) (fun K hK => ?_)
          try simp only [Act.put, List.setIfInBounds_toArray, List.set_cons_zero, List.set_cons_succ]
          go_simp
          refine (HRS.out _ (bt HK1.out HW2.out)).mono ?_
          rintro e x2 ⟨⟨o2, rfl, ho2⟩, hb3⟩
          have HO2 := Lib.hid ho2
          replace HO1 := Lib.hid (HO1.out.up hb3)
          have HK2 := Lib.hid (show Below w2'.heap.size w2' x2 from bt hb3 HK1.out)
          clear ho2 hb3
          refine hK.out _ _ (fun _ => HCS.out _ HK2.out) (fun hH => ?_)
          replace hH := hH (by decide)
          clear hK K
          try simp only [Act.put, List.setIfInBounds_toArray, List.set_cons_zero, List.set_cons_succ]
          refine oneZ 7 (by kernel_rfl) (gi rfl) (fun K hK => ?_)
          try simp only [Act.put, List.setIfInBounds_toArray, List.set_cons_zero, List.set_cons_succ]
          go_simp
          refine (Order_any _ _ _ _ _ _ _ (HO1.out.more (Nat.zero_le _) (Nat.le_refl _) (Nat.le_refl _)) HO2.out (by omega) (by omega)).mono ?_
          rintro e x3 ⟨rfl, q4, rfl⟩
          have HK3 := Lib.hid (show Below w2'.heap.size w2' (x2.drewN q4) from below_drewN HK2.out q4)
          refine hK.out _ _ (fun _ => HCS.out _ HK3.out) (fun hH => ?_)
          replace hH := hH (by decide)
          clear hK K
          try simp only [Act.put, List.setIfInBounds_toArray, List.set_cons_zero, List.set_cons_succ]
          refine takeZ 8 (v := ?_) (gi rfl) (by kernel_rfl) (fun _ _ _ h => h) hH (.inl ⟨rfl, fun w hW => ?_⟩) ?_
          rotate_left
          · (go_simp; try with_reducible rfl)
          try simp only [Act.put, List.setIfInBounds_toArray, List.set_cons_zero, List.set_cons_succ]
          refine takeZ 9 (v := ?_) (gi rfl) (by kernel_rfl) (fun _ _ _ h => h) hH (.inl ⟨rfl, fun w hW => ?_⟩) ?_
          rotate_left
          · (go_simp; try with_reducible rfl)
          try simp only [Act.put, List.setIfInBounds_toArray, List.set_cons_zero, List.set_cons_succ]
          refine takeZ 10 (v := ?_) (gi rfl) (by kernel_rfl) (fun _ _ _ h => h) hH (.inl ⟨rfl, fun w hW => ?_⟩) ?_
          rotate_left
          · (go_simp; try with_reducible rfl)
          try simp only [Act.put, List.setIfInBounds_toArray, List.set_cons_zero, List.set_cons_succ]
          refine takeZ 11 (v := ?_) (gi rfl) (by kernel_rfl) (fun _ _ _ h => h) hH (.inl ⟨rfl, fun w hW => ?_⟩) ?_
          rotate_left
          · (go_simp; try with_reducible rfl)
          try simp only [Act.put, List.setIfInBounds_toArray, List.set_cons_zero, List.set_cons_succ]
          refine takeZ 12 (v := ?_) (gi rfl) (by kernel_rfl) (fun _ _ _ h => h) hH (.inl ⟨rfl, fun w hW => ?_⟩) ?_
          rotate_left
          · (go_simp; try with_reducible rfl)
          try simp only [Act.put, List.setIfInBounds_toArray, List.set_cons_zero, List.set_cons_succ]
          refine takeZ 13 (v := ?_) (gi rfl) (by kernel_rfl) (fun _ _ _ h => h) hH (.inl ⟨rfl, fun w hW => ?_⟩) ?_
          rotate_left
          · (obtain ⟨⟨hW1, hW2, hW3⟩, hW4, hW5, hW6⟩ := hW; go_simp; try with_reducible rfl)
          try simp only [Act.put, List.setIfInBounds_toArray, List.set_cons_zero, List.set_cons_succ]
          refine takeZ 14 (v := ?_) (gi rfl) (by kernel_rfl) (fun _ _ _ h => h) hH (.inl ⟨rfl, fun w hW => ?_⟩) ?_
          rotate_left
          · (go_simp; try with_reducible rfl)
          try simp only [Act.put, List.setIfInBounds_toArray, List.set_cons_zero, List.set_cons_succ]
          refine takeZ 15 (v := ?_) (gi rfl) (by kernel_rfl) (fun _ _ _ h => h) hH (.inl ⟨rfl, fun w hW => ?_⟩) ?_
          rotate_left
          · (go_simp; try with_reducible rfl)
          try simp only [Act.put, List.setIfInBounds_toArray, List.set_cons_zero, List.set_cons_succ]
          refine takeZ 16 (v := ?_) (gi rfl) (by kernel_rfl) (fun _ _ _ h => h) hH (.inl ⟨rfl, fun w hW => ?_⟩) ?_
          rotate_left
          · (go_simp; try with_reducible rfl)
          try simp only [Act.put, List.setIfInBounds_toArray, List.set_cons_zero, List.set_cons_succ]
          refine takeZ 17 (v := ?_) (gi rfl) (by kernel_rfl) (fun _ _ _ h => h) hH (.inl ⟨rfl, fun w hW => ?_⟩) ?_
          rotate_left
          · (obtain ⟨⟨hW1, hW2, hW3⟩, hW4, hW5, hW6⟩ := hW; go_simp; try with_reducible rfl)
          try simp only [Act.put, List.setIfInBounds_toArray, List.set_cons_zero, List.set_cons_succ]
          refine takeZ 18 (v := ?_) (gi rfl) (by kernel_rfl) (fun _ _ _ h => h) hH (.inl ⟨rfl, fun w hW => ?_⟩) ?_
          rotate_left
          · (go_simp; try with_reducible rfl)
          try simp only [Act.put, List.setIfInBounds_toArray, List.set_cons_zero, List.set_cons_succ]
          refine takeZ 19 (v := ?_) (gi rfl) (by kernel_rfl) (fun _ _ _ h => h) hH (.inl ⟨rfl, fun w hW => ?_⟩) ?_
          rotate_left
          · (go_simp; try with_reducible rfl)
          try simp only [Act.put, List.setIfInBounds_toArray, List.set_cons_zero, List.set_cons_succ]
          refine takeZ 20 (v := ?_) (gi rfl) (by kernel_rfl) (fun _ _ _ h => h) hH (.inl ⟨rfl, fun w hW => ?_⟩) ?_
          rotate_left
          · (go_simp; try with_reducible rfl)
          try simp only [Act.put, List.setIfInBounds_toArray, List.set_cons_zero, List.set_cons_succ]
          refine takeZ 21 (v := ?_) (gi rfl) (by kernel_rfl) (fun _ _ _ h => h) hH (.inl ⟨rfl, fun w hW => ?_⟩) ?_
          rotate_left
          · (go_simp; try with_reducible rfl)
          try simp only [Act.put, List.setIfInBounds_toArray, List.set_cons_zero, List.set_cons_succ]
          refine takeZ 22 (v := ?_) (gi rfl) (by kernel_rfl) (fun _ _ _ h => h) hH (.inl ⟨rfl, fun w hW => ?_⟩) ?_
          rotate_left
          · (go_simp; try with_reducible rfl)
          try simp only [Act.put, List.setIfInBounds_toArray, List.set_cons_zero, List.set_cons_succ]
          refine takeZ 23 (v := ?_) (gi rfl) (by kernel_rfl) (fun _ _ _ h => h) hH (.inl ⟨rfl, fun w hW => ?_⟩) ?_
          rotate_left
          · (go_simp; try with_reducible rfl)
          try simp only [Act.put, List.setIfInBounds_toArray, List.set_cons_zero, List.set_cons_succ]
          refine takeZ 24 (v := ?_) (gi rfl) (by kernel_rfl) (fun _ _ _ h => h) hH (.inl ⟨rfl, fun w hW => ?_⟩) ?_
          rotate_left
          · (go_simp; try with_reducible rfl)
          try simp only [Act.put, List.setIfInBounds_toArray, List.set_cons_zero, List.set_cons_succ]
          refine takeZ 25 (v := ?_) (gi rfl) (by kernel_rfl) (fun _ _ _ h => h) hH (.inl ⟨rfl, fun w hW => ?_⟩) ?_
          rotate_left
          · (go_simp; try with_reducible rfl)
          try simp only [Act.put, List.setIfInBounds_toArray, List.set_cons_zero, List.set_cons_succ]
          refine takeZ 26 (v := ?_) (gi rfl) (by kernel_rfl) (fun _ _ _ h => h) hH (.inl ⟨rfl, fun w hW => ?_⟩) ?_
          rotate_left
          · (go_simp; try with_reducible rfl)
          try simp only [Act.put, List.setIfInBounds_toArray, List.set_cons_zero, List.set_cons_succ]
          refine takeZ 27 (v := ?_) (gi rfl) (by kernel_rfl) (fun _ _ _ h => h) hH (.inl ⟨rfl, fun w hW => ?_⟩) ?_
          rotate_left
          · (go_simp; try with_reducible rfl)
          try simp only [Act.put, List.setIfInBounds_toArray, List.set_cons_zero, List.set_cons_succ]
          refine takeZ 28 (v := ?_) (gi rfl) (by kernel_rfl) (fun _ _ _ h => h) hH (.inl ⟨rfl, fun w hW => ?_⟩) ?_
          rotate_left
          · (go_simp; try with_reducible rfl)
          try simp only [Act.put, List.setIfInBounds_toArray, List.set_cons_zero, List.set_cons_succ]
          refine takeZ 29 (v := ?_) (gi rfl) (by kernel_rfl) (fun _ _ _ h => h) hH (.inl ⟨rfl, fun w hW => ?_⟩) ?_
          rotate_left
          · (obtain ⟨⟨hW1, hW2, hW3⟩, hW4, hW5, hW6⟩ := hW; go_simp; try with_reducible rfl)
          try simp only [Act.put, List.setIfInBounds_toArray, List.set_cons_zero, List.set_cons_succ]
          refine takeZ 30 (v := ?_) (gi rfl) (by kernel_rfl) (fun _ _ _ h => h) hH (.inl ⟨rfl, fun w hW => ?_⟩) ?_
          rotate_left
          · (go_simp; try with_reducible rfl)
          try simp only [Act.put, List.setIfInBounds_toArray, List.set_cons_zero, List.set_cons_succ]
          refine takeZ 31 (v := ?_) (gi rfl) (by kernel_rfl) (fun _ _ _ h => h) hH (.inl ⟨rfl, fun w hW => ?_⟩) ?_
          rotate_left
          · (go_simp; try with_reducible rfl)
          try simp only [Act.put, List.setIfInBounds_toArray, List.set_cons_zero, List.set_cons_succ]
          refine takeZ 32 (v := ?_) (gi rfl) (by kernel_rfl) (fun _ _ _ h => h) hH (.inl ⟨rfl, fun w hW => ?_⟩) ?_
          rotate_left
          · (go_simp; try with_reducible rfl)
          try simp only [Act.put, List.setIfInBounds_toArray, List.set_cons_zero, List.set_cons_succ]
          refine takeZ 33 (v := ?_) (gi rfl) (by kernel_rfl) (fun _ _ _ h => h) hH (.inl ⟨rfl, fun w hW => ?_⟩) ?_
          rotate_left
          · (obtain ⟨⟨hW1, hW2, hW3⟩, hW4, hW5, hW6⟩ := hW; go_simp; try with_reducible rfl)
          try simp only [Act.put, List.setIfInBounds_toArray, List.set_cons_zero, List.set_cons_succ]
          refine takeZ 34 (v := ?_) (gi rfl) (by kernel_rfl) (fun _ _ _ h => h) hH (.inl ⟨rfl, fun w hW => ?_⟩) ?_
          rotate_left
          · (go_simp; try with_reducible rfl)
          try simp only [Act.put, List.setIfInBounds_toArray, List.set_cons_zero, List.set_cons_succ]
          refine takeZ 35 (v := ?_) (gi rfl) (by kernel_rfl) (fun _ _ _ h => h) hH (.inl ⟨rfl, fun w hW => ?_⟩) ?_
          rotate_left
          · (go_simp; try with_reducible rfl)
          try simp only [Act.put, List.setIfInBounds_toArray, List.set_cons_zero, List.set_cons_succ]
          refine takeZ 36 (v := ?_) (gi rfl) (by kernel_rfl) (fun _ _ _ h => h) hH (.inl ⟨rfl, fun w hW => ?_⟩) ?_
          rotate_left
          · (go_simp; try with_reducible rfl)
          try simp only [Act.put, List.setIfInBounds_toArray, List.set_cons_zero, List.set_cons_succ]
          refine takeZ 37 (v := ?_) (gi rfl) (by kernel_rfl) (fun _ _ _ h => h) hH (.inl ⟨rfl, fun w hW => ?_⟩) ?_
          rotate_left
          · (go_simp; try with_reducible rfl)
          try simp only [Act.put, List.setIfInBounds_toArray, List.set_cons_zero, List.set_cons_succ]
          refine takeZ 38 (v := ?_) (gi rfl) (by kernel_rfl) (fun _ _ _ h => h) hH (.inl ⟨rfl, fun w hW => ?_⟩) ?_
          rotate_left
          · (go_simp; try with_reducible rfl)
          try simp only [Act.put, List.setIfInBounds_toArray, List.set_cons_zero, List.set_cons_succ]
          refine oneZ 39 (by kernel_rfl) (gi rfl) (fun K hK => ?_)
          try simp only [Act.put, List.setIfInBounds_toArray, List.set_cons_zero, List.set_cons_succ]
          go_simp
          refine (lives_any _).mono ?_
          rintro e x4 ⟨rfl, hb4⟩
          have HK4 := Lib.hid (show Below w2'.heap.size w2' x4 from bt hb4 HK3.out)
          clear hb4
          refine hK.out _ _ (fun _ => HCS.out _ HK4.out) (fun hH => ?_)
          replace hH := hH (by decide)
          clear hK K
          try simp only [Act.put, List.setIfInBounds_toArray, List.set_cons_zero, List.set_cons_succ]
          refine takeZ 40 (v := ?_) (gi rfl) (by kernel_rfl) (fun _ _ _ h => h) hH (.inl ⟨rfl, fun w hW => ?_⟩) ?_
          rotate_left
          · (go_simp; try with_reducible rfl)
          try simp only [Act.put, List.setIfInBounds_toArray, List.set_cons_zero, List.set_cons_succ]
          refine yieldZ 41 (v := ?_) (by kernel_rfl) (gi rfl) hH (.inl ⟨rfl, fun w hW => ?_⟩) ?_
          rotate_left
          · (go_simp; try with_reducible rfl)
          try simp only [Act.put, List.setIfInBounds_toArray, List.set_cons_zero, List.set_cons_succ]
          refine doneZ (by kernel_rfl) ?_ _
          clear hH
          go_wp2_with fail
          go_ret
          exact ⟨rfl, bt HK4.out HW2.out⟩
      · have hsm1 : sm = false := by
          cases sm
          · rfl
          · exact absurd (hwd.2 (hsm.1 rfl)).1 z1
        subst hsm1
        clear hsm hwd HSM HWD
        go_wp2_with fail
        have HCS := Lib.hid (show ∀ W, Below w2'.heap.size w2' W → ((W.cell? ⟨g1, 2, none⟩ = some (.int .i64 m) ∧ W.cell? ⟨g1, 4, none⟩ = some (.int .u64 hi) ∧ W.cell? ⟨g1, 5, none⟩ = some (.int .u64 lo)) ∧ (W.cell? ⟨g2, 2, none⟩ = some (.int .i64 (m + by_)) ∧ W.cell? ⟨g2, 4, none⟩ = some (.int .u64 hi) ∧ W.cell? ⟨g2, 5, none⟩ = some (.int .u64 lo))) from fun W hw => ⟨⟨keepA hw HG1.out.1, keepA hw HG1.out.2.1, keepA hw HG1.out.2.2⟩, keepA hw HG2.out.1, keepA hw HG2.out.2.1, keepA hw HG2.out.2.2⟩)
        refine regionZ 41 (fun w' => (w'.cell? ⟨g1, 2, none⟩ = some (.int .i64 m) ∧ w'.cell? ⟨g1, 4, none⟩ = some (.int .u64 hi) ∧ w'.cell? ⟨g1, 5, none⟩ = some (.int .u64 lo)) ∧ (w'.cell? ⟨g2, 2, none⟩ = some (.int .i64 (m + by_)) ∧ w'.cell? ⟨g2, 4, none⟩ = some (.int .u64 hi) ∧ w'.cell? ⟨g2, 5, none⟩ = some (.int .u64 lo))) (by kernel_rfl) (HCS.out _ (Below.refl _ w2').drew) (fun hH => ?_)
        refine takeZ 0 (v := ?_) (gi rfl) (by kernel_rfl) (fun _ _ _ h => h) hH (.inl ⟨rfl, fun w hW => ?_⟩) ?_
        rotate_left
        · (go_simp; try with_reducible rfl)
        try simp only [Act.put, List.setIfInBounds_toArray, List.set_cons_zero, List.set_cons_succ]
        refine takeZ 1 (v := ?_) (gi rfl) (by kernel_rfl) (fun _ _ _ h => h) hH (.inl ⟨rfl, fun w hW => ?_⟩) ?_
        rotate_left
        · (go_simp; try with_reducible rfl)
        try simp only [Act.put, List.setIfInBounds_toArray, List.set_cons_zero, List.set_cons_succ]
        refine takeZ 2 (v := ?_) (gi rfl) (by kernel_rfl) (fun _ _ _ h => h) hH (.inl ⟨rfl, fun w hW => ?_⟩) ?_
        rotate_left
        · (go_simp; try with_reducible rfl)
        try simp only [Act.put, List.setIfInBounds_toArray, List.set_cons_zero, List.set_cons_succ]
        refine takeZ 3 (v := ?_) (gi rfl) (by kernel_rfl) (fun _ _ _ h => h) hH (.inl ⟨rfl, fun w hW => ?_⟩) ?_
        rotate_left
        · (obtain ⟨⟨hW1, hW2, hW3⟩, hW4, hW5, hW6⟩ := hW; go_simp; try with_reducible rfl)
        try simp only [Act.put, List.setIfInBounds_toArray, List.set_cons_zero, List.set_cons_succ]
        refine takeZ 5 (v := ?_) (gi rfl) (by kernel_rfl) (fun _ _ _ h => h) hH (.inl ⟨rfl, fun w hW => ?_⟩) ?_
        rotate_left
        · (go_simp; try with_reducible rfl)
        try simp only [Act.put, List.setIfInBounds_toArray, List.set_cons_zero, List.set_cons_succ]
        refine oneZ 4 (by kernel_rfl) (gi rfl) (fun K hK => ?_)
        try simp only [Act.put, List.setIfInBounds_toArray, List.set_cons_zero, List.set_cons_succ]
        go_simp
        refine (HRB.out _).mono ?_
        rintro e x1 ⟨⟨o1, rfl, ho1⟩, hb3⟩
        have HO1 := Lib.hid ho1
        have HK1 := Lib.hid (show Below w2'.heap.size w2' x1 from bt hb3 (Below.refl _ w2').drew)
        clear ho1 hb3
        refine hK.out _ _ (fun _ => HCS.out _ HK1.out) (fun hH => ?_)
        replace hH := hH (by decide)
        clear hK K
        try simp only [Act.put, List.setIfInBounds_toArray, List.set_cons_zero, List.set_cons_succ]
        refine oneZ 6 (by kernel_rfl) (gi rfl) (fun K hK => ?_)
        try simp only [Act.put, List.setIfInBounds_toArray, List.set_cons_zero, List.set_cons_succ]
        go_simp
        refine (HRS.out _ (bt HK1.out HW2.out)).mono ?_
        rintro e x2 ⟨⟨o2, rfl, ho2⟩, hb3⟩
        have HO2 := Lib.hid ho2
        replace HO1 := Lib.hid (HO1.out.up hb3)
        have HK2 := Lib.hid (show Below w2'.heap.size w2' x2 from bt hb3 HK1.out)
        clear ho2 hb3
        refine hK.out _ _ (fun _ => HCS.out _ HK2.out) (fun hH => ?_)
        replace hH := hH (by decide)
        clear hK K
        try simp only [Act.put, List.setIfInBounds_toArray, List.set_cons_zero, List.set_cons_succ]
        refine oneZ 7 (by kernel_rfl) (gi rfl) (fun K hK => ?_)
        try simp only [Act.put, List.setIfInBounds_toArray, List.set_cons_zero, List.set_cons_succ]
        go_simp
        refine (Order_any _ _ _ _ _ _ _ (HO1.out.more (Nat.zero_le _) (Nat.le_refl _) (Nat.le_refl _)) HO2.out (by omega) (by omega)).mono ?_
        rintro e x3 ⟨rfl, q4, rfl⟩
        have HK3 := Lib.hid (show Below w2'.heap.size w2' (x2.drewN q4) from below_drewN HK2.out q4)
        refine hK.out _ _ (fun _ => HCS.out _ HK3.out) (fun hH => ?_)
        replace hH := hH (by decide)
        clear hK K
        try simp only [Act.put, List.setIfInBounds_toArray, List.set_cons_zero, List.set_cons_succ]
        refine takeZ 8 (v := ?_) (gi rfl) (by kernel_rfl) (fun _ _ _ h => h) hH (.inl ⟨rfl, fun w hW => ?_⟩) ?_
        rotate_left
        · (go_simp; try with_reducible rfl)
        try simp only [Act.put, List.setIfInBounds_toArray, List.set_cons_zero, List.set_cons_succ]
        refine takeZ 9 (v := ?_) (gi rfl) (by kernel_rfl) (fun _ _ _ h => h) hH (.inl ⟨rfl, fun w hW => ?_⟩) ?_
        rotate_left
        · (go_simp; try with_reducible rfl)
        try simp only [Act.put, List.setIfInBounds_toArray, List.set_cons_zero, List.set_cons_succ]
        refine takeZ 10 (v := ?_) (gi rfl) (by kernel_rfl) (fun _ _ _ h => h) hH (.inl ⟨rfl, fun w hW => ?_⟩) ?_
        rotate_left
        · (go_simp; try with_reducible rfl)
        try simp only [Act.put, List.setIfInBounds_toArray, List.set_cons_zero, List.set_cons_succ]
        refine takeZ 11 (v := ?_) (gi rfl) (by kernel_rfl) (fun _ _ _ h => h) hH (.inl ⟨rfl, fun w hW => ?_⟩) ?_
        rotate_left
        · (go_simp; try with_reducible rfl)
        try simp only [Act.put, List.setIfInBounds_toArray, List.set_cons_zero, List.set_cons_succ]
        refine takeZ 12 (v := ?_) (gi rfl) (by kernel_rfl) (fun _ _ _ h => h) hH (.inl ⟨rfl, fun w hW => ?_⟩) ?_
        rotate_left
        · (go_simp; try with_reducible rfl)
        try simp only [Act.put, List.setIfInBounds_toArray, List.set_cons_zero, List.set_cons_succ]
        refine takeZ 13 (v := ?_) (gi rfl) (by kernel_rfl) (fun _ _ _ h => h) hH (.inl ⟨rfl, fun w hW => ?_⟩) ?_
        rotate_left
        · (obtain ⟨⟨hW1, hW2, hW3⟩, hW4, hW5, hW6⟩ := hW; go_simp; try with_reducible rfl)
        try simp only [Act.put, List.setIfInBounds_toArray, List.set_cons_zero, List.set_cons_succ]
        refine takeZ 14 (v := ?_) (gi rfl) (by kernel_rfl) (fun _ _ _ h => h) hH (.inl ⟨rfl, fun w hW => ?_⟩) ?_
        rotate_left
        · (go_simp; try with_reducible rfl)
        try simp only [Act.put, List.setIfInBounds_toArray, List.set_cons_zero, List.set_cons_succ]
        refine takeZ 15 (v := ?_) (gi rfl) (by kernel_rfl) (fun _ _ _ h => h) hH (.inl ⟨rfl, fun w hW => ?_⟩) ?_
        rotate_left
        · (go_simp; try with_reducible rfl)
        try simp only [Act.put, List.setIfInBounds_toArray, List.set_cons_zero, List.set_cons_succ]
        refine takeZ 16 (v := ?_) (gi rfl) (by kernel_rfl) (fun _ _ _ h => h) hH (.inl ⟨rfl, fun w hW => ?_⟩) ?_
        rotate_left
        · (go_simp; try with_reducible rfl)
        try simp only [Act.put, List.setIfInBounds_toArray, List.set_cons_zero, List.set_cons_succ]
        refine takeZ 17 (v := ?_) (gi rfl) (by kernel_rfl) (fun _ _ _ h => h) hH (.inl ⟨rfl, fun w hW => ?_⟩) ?_
        rotate_left
        · (obtain ⟨⟨hW1, hW2, hW3⟩, hW4, hW5, hW6⟩ := hW; go_simp; try with_reducible rfl)
        try simp only [Act.put, List.setIfInBounds_toArray, List.set_cons_zero, List.set_cons_succ]
        refine takeZ 18 (v := ?_) (gi rfl) (by kernel_rfl) (fun _ _ _ h => h) hH (.inl ⟨rfl, fun w hW => ?_⟩) ?_
        rotate_left
        · (go_simp; try with_reducible rfl)
        try simp only [Act.put, List.setIfInBounds_toArray, List.set_cons_zero, List.set_cons_succ]
        refine takeZ 19 (v := ?_) (gi rfl) (by kernel_rfl) (fun _ _ _ h => h) hH (.inl ⟨rfl, fun w hW => ?_⟩) ?_
        rotate_left
        · (go_simp; try with_reducible rfl)
        try simp only [Act.put, List.setIfInBounds_toArray, List.set_cons_zero, List.set_cons_succ]
        refine takeZ 20 (v := ?_) (gi rfl) (by kernel_rfl) (fun _ _ _ h => h) hH (.inl ⟨rfl, fun w hW => ?_⟩) ?_
        rotate_left
        · (go_simp; try with_reducible rfl)
        try simp only [Act.put, List.setIfInBounds_toArray, List.set_cons_zero, List.set_cons_succ]
        refine takeZ 21 (v := ?_) (gi rfl) (by kernel_rfl) (fun _ _ _ h => h) hH (.inl ⟨rfl, fun w hW => ?_⟩) ?_
        rotate_left
        · (go_simp; try with_reducible rfl)
        try simp only [Act.put, List.setIfInBounds_toArray, List.set_cons_zero, List.set_cons_succ]
        refine takeZ 22 (v := ?_) (gi rfl) (by kernel_rfl) (fun _ _ _ h => h) hH (.inl ⟨rfl, fun w hW => ?_⟩) ?_
        rotate_left
        · (go_simp; try with_reducible rfl)
        try simp only [Act.put, List.setIfInBounds_toArray, List.set_cons_zero, List.set_cons_succ]
        refine takeZ 23 (v := ?_) (gi rfl) (by kernel_rfl) (fun _ _ _ h => h) hH (.inl ⟨rfl, fun w hW => ?_⟩) ?_
        rotate_left
        · (go_simp; try with_reducible rfl)
        try simp only [Act.put, List.setIfInBounds_toArray, List.set_cons_zero, List.set_cons_succ]
        refine takeZ 24 (v := ?_) (gi rfl) (by kernel_rfl) (fun _ _ _ h => h) hH (.inl ⟨rfl, fun w hW => ?_⟩) ?_
        rotate_left
        · (go_simp; try with_reducible rfl)
        try simp only [Act.put, List.setIfInBounds_toArray, List.set_cons_zero, List.set_cons_succ]
        refine takeZ 25 (v := ?_) (gi rfl) (by kernel_rfl) (fun _ _ _ h => h) hH (.inl ⟨rfl, fun w hW => ?_⟩) ?_
        rotate_left
        · (go_simp; try with_reducible rfl)
        try simp only [Act.put, List.setIfInBounds_toArray, List.set_cons_zero, List.set_cons_succ]
        refine takeZ 26 (v := ?_) (gi rfl) (by kernel_rfl) (fun _ _ _ h => h) hH (.inl ⟨rfl, fun w hW => ?_⟩) ?_
        rotate_left
        · (go_simp; try with_reducible rfl)
        try simp only [Act.put, List.setIfInBounds_toArray, List.set_cons_zero, List.set_cons_succ]
        refine takeZ 27 (v := ?_) (gi rfl) (by kernel_rfl) (fun _ _ _ h => h) hH (.inl ⟨rfl, fun w hW => ?_⟩) ?_
        rotate_left
        · (go_simp; try with_reducible rfl)
        try simp only [Act.put, List.setIfInBounds_toArray, List.set_cons_zero, List.set_cons_succ]
        refine takeZ 28 (v := ?_) (gi rfl) (by kernel_rfl) (fun _ _ _ h => h) hH (.inl ⟨rfl, fun w hW => ?_⟩) ?_
        rotate_left
        · (go_simp; try with_reducible rfl)
        try simp only [Act.put, List.setIfInBounds_toArray, List.set_cons_zero, List.set_cons_succ]
        refine takeZ 29 (v := ?_) (gi rfl) (by kernel_rfl) (fun _ _ _ h => h) hH (.inl ⟨rfl, fun w hW => ?_⟩) ?_
        rotate_left
        · (obtain ⟨⟨hW1, hW2, hW3⟩, hW4, hW5, hW6⟩ := hW; go_simp; try with_reducible rfl)
        try simp only [Act.put, List.setIfInBounds_toArray, List.set_cons_zero, List.set_cons_succ]
        refine takeZ 30 (v := ?_) (gi rfl) (by kernel_rfl) (fun _ _ _ h => h) hH (.inl ⟨rfl, fun w hW => ?_⟩) ?_
        rotate_left
        · (go_simp; try with_reducible rfl)
        try simp only [Act.put, List.setIfInBounds_toArray, List.set_cons_zero, List.set_cons_succ]
        refine takeZ 31 (v := ?_) (gi rfl) (by kernel_rfl) (fun _ _ _ h => h) hH (.inl ⟨rfl, fun w hW => ?_⟩) ?_
        rotate_left
        · (go_simp; try with_reducible rfl)
        try simp only [Act.put, List.setIfInBounds_toArray, List.set_cons_zero, List.set_cons_succ]
        refine takeZ 32 (v := ?_) (gi rfl) (by kernel_rfl) (fun _ _ _ h => h) hH (.inl ⟨rfl, fun w hW => ?_⟩) ?_
        rotate_left
        · (go_simp; try with_reducible rfl)
        try simp only [Act.put, List.setIfInBounds_toArray, List.set_cons_zero, List.set_cons_succ]
        refine takeZ 33 (v := ?_) (gi rfl) (by kernel_rfl) (fun _ _ _ h => h) hH (.inl ⟨rfl, fun w hW => ?_⟩) ?_
        rotate_left
        · (obtain ⟨⟨hW1, hW2, hW3⟩, hW4, hW5, hW6⟩ := hW; go_simp; try with_reducible rfl)
        try simp only [Act.put, List.setIfInBounds_toArray, List.set_cons_zero, List.set_cons_succ]
        refine takeZ 34 (v := ?_) (gi rfl) (by kernel_rfl) (fun _ _ _ h => h) hH (.inl ⟨rfl, fun w hW => ?_⟩) ?_
        rotate_left
        · (go_simp; try with_reducible rfl)
        try simp only [Act.put, List.setIfInBounds_toArray, List.set_cons_zero, List.set_cons_succ]
        refine takeZ 35 (v := ?_) (gi rfl) (by kernel_rfl) (fun _ _ _ h => h) hH (.inl ⟨rfl, fun w hW => ?_⟩) ?_
        rotate_left
        · (go_simp; try with_reducible rfl)
        try simp only [Act.put, List.setIfInBounds_toArray, List.set_cons_zero, List.set_cons_succ]
        refine takeZ 36 (v := ?_) (gi rfl) (by kernel_rfl) (fun _ _ _ h => h) hH (.inl ⟨rfl, fun w hW => ?_⟩) ?_
        rotate_left
        · (go_simp; try with_reducible rfl)
        try simp only [Act.put, List.setIfInBounds_toArray, List.set_cons_zero, List.set_cons_succ]
        refine takeZ 37 (v := ?_) (gi rfl) (by kernel_rfl) (fun _ _ _ h => h) hH (.inl ⟨rfl, fun w hW => ?_⟩) ?_
        rotate_left
        · (go_simp; try with_reducible rfl)
        try simp only [Act.put, List.setIfInBounds_toArray, List.set_cons_zero, List.set_cons_succ]
        refine takeZ 38 (v := ?_) (gi rfl) (by kernel_rfl) (fun _ _ _ h => h) hH (.inl ⟨rfl, fun w hW => ?_⟩) ?_
        rotate_left
        · (go_simp; try with_reducible rfl)
        try simp only [Act.put, List.setIfInBounds_toArray, List.set_cons_zero, List.set_cons_succ]
        refine oneZ 39 (by kernel_rfl) (gi rfl) (fun K hK => ?_)
        try simp only [Act.put, List.setIfInBounds_toArray, List.set_cons_zero, List.set_cons_succ]
        go_simp
        refine (lives_any _).mono ?_
        rintro e x4 ⟨rfl, hb4⟩
        have HK4 := Lib.hid (show Below w2'.heap.size w2' x4 from bt hb4 HK3.out)
        clear hb4
        refine hK.out _ _ (fun _ => HCS.out _ HK4.out) (fun hH => ?_)
        replace hH := hH (by decide)
        clear hK K
        try simp only [Act.put, List.setIfInBounds_toArray, List.set_cons_zero, List.set_cons_succ]
        refine takeZ 40 (v := ?_) (gi rfl) (by kernel_rfl) (fun _ _ _ h => h) hH (.inl ⟨rfl, fun w hW => ?_⟩) ?_
        rotate_left
        · (go_simp; try with_reducible rfl)
        try simp only [Act.put, List.setIfInBounds_toArray, List.set_cons_zero, List.set_cons_succ]
        refine yieldZ 41 (v := ?_) (by kernel_rfl) (gi rfl) hH (.inl ⟨rfl, fun w hW => ?_⟩) ?_
        rotate_left
        · (go_simp; try with_reducible rfl)
        try simp only [Act.put, List.setIfInBounds_toArray, List.set_cons_zero, List.set_cons_succ]
        refine doneZ (by kernel_rfl) ?_ _
        clear hH
        go_wp2_with fail
        go_ret
        exact ⟨rfl, bt HK4.out HW2.out⟩
end Go.Proofs.YtodiipkedhfncaaGreatDoor.SpsW
