/- The walk of FaultHas. -/
import Derived.Test.YthinjoldbjcifaaDoorNodP
namespace Go.Proofs.YthinjoldbjcifaaDoor.NodH
set_option linter.unusedVariables false
open Go.RowKit Go.WideElems Base FltM FltW FltX FltI FltH FltC FltT FltS FltL NodM PlayM NodC NodD NodP

def HRel (ms : List (Nat × T)) (w : World) (i : Value) (wr : World) : Prop := ∃ k : Nat, k ≤ ms.length ∧ i = .int .i64 k ∧ Below w.heap.size w wr
def CRel (C : List Int) (c cl : Int) (w : World) (has of i : Value) (wr : World) : Prop := ∃ k : Nat, k ≤ C.length ∧ has = .bool ((C.take k).any (· == c)) ∧ of = .bool ((C.take k).any fun d => classV d == cl) ∧ i = .int .i64 k ∧ Below w.heap.size w wr
theorem any_next {l : List Int} {k : Nat} {x : Int} (h : l[k]? = some x) (f : Int → Bool) : (l.take (k + 1)).any f = ((l.take k).any f || f x) := by
  rw [take_next h, List.any_append]; simp
set_option maxHeartbeats 8000000 in
set_option maxRecDepth 100000 in
theorem FaultHas_any (v : Value) (l : List Nd) (lo : Nat) (c cl : Int) (w : World) (hG : G w) (h : Seq 6 ndC w lo w.heap.size v l) (hn : Nums l) :
    Calls Tryd.prog 3 #[v, .int .i64 c, .int .i64 cl] w fun e w' => e = .returned (.bool true) ∧ Below w.heap.size w w' := by
  have HG := Lib.hid hG
  have HS := Lib.hid h
  clear hG h
  cases hs : smallB l
  · go_enter Tryd.func3, Tryd.ntmps3
    go_wp2_with fail
    refine (small_any v l lo _ w HS.out).mono ?_
    rintro e w1 ⟨rfl, rfl⟩
    rw [hs]
    go_wp2_with fail
    refine (lives_any _ HG.out).mono ?_
    rintro e w1 ⟨rfl, hb⟩
    go_wp2_with fail
    go_ret
    exact ⟨rfl, hb⟩
  · have HF := Lib.hid (small_fits hs hn)
    go_enter Tryd.func3, Tryd.ntmps3
    go_wp2_with fail
    refine (small_any v l lo _ w HS.out).mono ?_
    rintro e w1 ⟨rfl, rfl⟩
    rw [hs]
    clear hs hn
    go_wp2_with fail
    refine (play_pl v l lo w HS.out HF.out.1 HF.out.2).mono ?_
    rintro e w1 ⟨⟨made, nodes, ms, ns, rfl, hp⟩, hb1⟩
    have HP := Lib.hid hp
    have HB1 := Lib.hid hb1
    have HG1 := Lib.hid (HG.out.below hb1)
    obtain ⟨A, cap, rfl, hc1, hc2, _, _⟩ := hp.sm
    obtain ⟨A2, cap2, rfl, hd1, hd2, _, _⟩ := hp.sn
    have hlen := hp.len
    have hfew := hp.few
    unfold maxLen at hc2 hd2
    clear hp hb1
    obtain ⟨q, hq⟩ : ∃ q, ms.length = q := ⟨_, rfl⟩
    have HQ := Lib.hid hq
    obtain ⟨q', hq'⟩ : ∃ q, ns.length = q := ⟨_, rfl⟩
    have HQ' := Lib.hid hq'
    rw [hq] at hlen hc1 hfew
    rw [hq'] at hlen hd1
    rw [hq, hq']
    obtain rfl := hlen
    clear hq hq'
    have H0 := Lib.hid (show HRel ms w1 (.int .i64 0) w1 from ⟨0, Nat.zero_le _, rfl, Below.refl _ _⟩)
    go_wp2_with fail
    go_loopw [10] (fun i wr => HRel ms w1 i wr) (fun i _ => q' - (NodM.intOf i).toNat)
    case atStart => exact H0.out
    case round =>
      clear H0
      obtain ⟨k, hk, rfl, hb⟩ := hrel
      rw [HQ.out] at hk
      have HB := Lib.hid hb
      clear hb
      by_cases hlt : k < q'
      · obtain ⟨ad, x, cap', e, _, _, hx, c0, hbk, hat, hrep, hfit, htl⟩ := (HP.out.up HB.out).get (k := k) (by rw [HQ.out]; exact hlt)
        have HAT := Lib.hid hat
        have HREP := Lib.hid hrep
        have HFIT := Lib.hid hfit
        have hcl := codes_le x.2
        have HC := Lib.hid (show x.2.codes.length ≤ 2000000 by omega)
        clear hat hrep hfit htl hcl
        obtain ⟨rfl, rfl⟩ : A = some ad ∧ cap = cap' := by injection e with e1 _ e2; exact ⟨e1, e2⟩
        clear e
        have PR := Lib.hid (HP.out.up HB.out)
        go_wp2_with fail
        refine (RCodes_at _ ns w.heap.size x.2 k _ (by have := PR.out.sn; rw [HQ'.out] at this; exact this) HREP.out HC.out).mono ?_
        rintro e w2 ⟨⟨r, rfl, hro⟩, hb2⟩
        obtain ⟨AC, cc, rfl, hcc1, hcc2, hrd, _⟩ := Seq.of_own hro
        have hclen := codes_pos x.2
        unfold maxLen at hcc2
        have HRD := Lib.hid hrd
        have HB2 := Lib.hid (bt hb2 HB.out)
        have HAT2 := Lib.hid (HAT.out.up hb2)
        replace c0 := (hb2.cell (p := ad.add k) (by rw [add_block]; exact hbk)).trans c0
        have hs2 := hb2.size
        have hg2 : w.heap.size ≤ wr.heap.size := Nat.le_trans HB1.out.size HB.out.size
        obtain ⟨C, hC⟩ : ∃ C, x.2.codes = C := ⟨_, rfl⟩
        have EC := Lib.hid hC
        rw [hC] at HRD hcc1 hclen
        rw [hC]
        obtain ⟨n, hn⟩ : ∃ n, C.length = n := ⟨_, rfl⟩
        have HN := Lib.hid hn
        rw [hn] at hcc1 hclen
        rw [hn]
        have H1 := Lib.hid (show CRel C c cl w2 (.bool false) (.bool false) (.int .i64 0) w2 from ⟨0, Nat.zero_le _, by simp, by simp, rfl, Below.refl _ _⟩)
        clear hro hb2 hrd hC hn hx
        go_wp2_with fail
        go_loopw [12, 13, 14] (fun has of i wr => CRel C c cl w2 has of i wr) (fun _ _ i _ => n - (NodM.intOf i).toNat)
        case atStart => exact H1.out
        case round =>
          clear H1
          obtain ⟨j, hj, rfl, rfl, rfl, hbq⟩ := hrel
          have HBQ := Lib.hid hbq
          rw [HN.out] at hj
          clear hbq
          by_cases hlt2 : j < n
          · obtain ⟨adC, d, rfl, _, hbd, hx, hcd⟩ := rdk inC_len (HRD.out.below HBQ.out) (i := j) (by rw [HN.out]; exact hlt2)
            have c1 : wr.cell? (adC.add j) = some (.int .i64 d) := by simpa using hcd 0 _ rfl
            have HX := Lib.hid hx
            clear hx hcd
            have HA := Lib.hid (any_next HX.out (· == c))
            have HA2 := Lib.hid (any_next HX.out (fun e => classV e == cl))
            generalize hh : (C.take j).any (· == c) = has at *
            generalize ho : (C.take j).any (fun e => classV e == cl) = of_ at *
            clear hh ho
            cases has <;> cases of_
            · go_wp2_with fail
              refine (RClass_any d _).mono ?_
              rintro e w5 ⟨rfl, hb5⟩
              have X5 := Lib.hid (bt hb5 HBQ.out)
              clear hb5
              go_wp2_with fail
              exact ⟨⟨j + 1, by rw [HN.out]; omega, by rw [HA.out]; rfl, by rw [HA2.out]; rfl, by go_num, X5.out⟩, by simp [NodM.intOf]; omega⟩
            · go_wp2_with fail
              exact ⟨⟨j + 1, by rw [HN.out]; omega, by rw [HA.out]; rfl, by rw [HA2.out]; rfl, by go_num, HBQ.out⟩, by simp [NodM.intOf]; omega⟩
            · go_wp2_with fail
              refine (RClass_any d _).mono ?_
              rintro e w5 ⟨rfl, hb5⟩
              have X5 := Lib.hid (bt hb5 HBQ.out)
              clear hb5
              go_wp2_with fail
              exact ⟨⟨j + 1, by rw [HN.out]; omega, by rw [HA.out]; rfl, by rw [HA2.out]; rfl, by go_num, X5.out⟩, by simp [NodM.intOf]; omega⟩
            · go_wp2_with fail
              exact ⟨⟨j + 1, by rw [HN.out]; omega, by rw [HA.out]; rfl, by rw [HA2.out]; rfl, by go_num, HBQ.out⟩, by simp [NodM.intOf]; omega⟩
          · have htk : C.take j = C := List.take_of_length_le (by rw [HN.out]; omega)
            rw [htk]
            have HV := Lib.hid (show hasO (some x.2) c = C.any (· == c) by show x.2.codes.any _ = _; rw [EC.out])
            have HV2 := Lib.hid (show ofO (some x.2) cl = C.any (fun d => classV d == cl) by show x.2.codes.any _ = _; rw [EC.out])
            clear htk
            generalize hh : C.any (· == c) = has at *
            generalize ho : C.any (fun d => classV d == cl) = of_ at *
            clear hh ho
            have X3 := Lib.hid (bt HBQ.out HB2.out)
            have AT3 := Lib.hid (HAT2.out.up HBQ.out)
            have hb3 : (ad.add k).block < w2.heap.size := by rw [add_block]; omega
            replace c0 := (HBQ.out.cell hb3).trans c0
            have hs3 := HBQ.out.size
            go_wp2_with fail
            refine (Has_any _ (some x.2) c _ ⟨_, rfl, AT3.out⟩ HFIT.out).mono ?_
            rintro e w5 ⟨rfl, hb5⟩
            rw [HV.out]
            have c0' := (hb5.cell (p := ad.add k) (by omega)).trans c0
            have X5 := Lib.hid (bt hb5 X3.out)
            have AT5 := Lib.hid (AT3.out.up hb5)
            clear hb5
            have hne : (has != has) = false := by simp
            go_wp2_with fail
            refine (Of_any _ (some x.2) cl _ ⟨_, rfl, AT5.out⟩ HFIT.out).mono ?_
            rintro e w6 ⟨rfl, hb6⟩
            rw [HV2.out]
            have X6 := Lib.hid (bt hb6 X5.out)
            clear hb6
            have hne2 : (of_ != of_) = false := by simp
            go_wp2_with fail
            exact ⟨⟨k + 1, by rw [HQ.out]; omega, by go_num, X6.out⟩, by simp [NodM.intOf]; omega⟩
      · go_wp2_with fail
        refine (Has_any (.pointer none) none c _ rfl trivial).mono ?_
        rintro e w5 ⟨rfl, hb5⟩
        rw [show hasO none c = false from rfl]
        have X5 := Lib.hid (bt hb5 HB.out)
        clear hb5
        go_wp2_with fail
        refine (Of_any (.pointer none) none cl _ rfl trivial).mono ?_
        rintro e w6 ⟨rfl, hb6⟩
        rw [show ofO none cl = false from rfl]
        have X6 := Lib.hid (bt hb6 X5.out)
        clear hb6
        go_wp2_with fail
        refine (Class_any c _).mono ?_
        rintro e w7 ⟨rfl, rfl⟩
        go_wp2_with fail
        refine (RClass_any c _).mono ?_
        rintro e w8 ⟨rfl, hb8⟩
        have X8 := Lib.hid (bt hb8 X6.out)
        clear hb8
        go_wp2_with fail
        refine (lives_any _ (HG1.out.below X8.out)).mono ?_
        rintro e w9 ⟨rfl, hb9⟩
        have X9 := Lib.hid (bt (bt hb9 X8.out) HB1.out)
        clear hb9
        go_wp2_with fail
        go_ret
        exact ⟨rfl, X9.out⟩
end Go.Proofs.YthinjoldbjcifaaDoor.NodH
