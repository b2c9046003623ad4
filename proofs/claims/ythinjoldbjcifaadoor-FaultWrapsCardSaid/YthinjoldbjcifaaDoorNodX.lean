/- The walk of FaultTells. -/
import Derived.Test.YthinjoldbjcifaaDoorNodP
import Derived.Deep.QuietTactic
namespace Go.Proofs.YthinjoldbjcifaaDoor.NodX
set_option linter.unusedVariables false
open Go.RowKit Go.WideElems Base FltM FltW FltX FltI FltH FltC FltT FltS FltL NodM PlayM NodC NodD NodS NodT NodP

theorem Error_any (v : Value) (o : Option T) (w : World) (hG : G w) (h : Flt w w.heap.size v o) (hf : fitsO o) (hl : (textO o).length ≤ 1073741824) :
    Calls Tryd.prog 24 #[v] w fun e w' => e = .returned (.string ⟨(textO o).toArray⟩) ∧ Below w.heap.size w w' := by
  have HT := Lib.hid (Text_any v o w hG h hf hl)
  clear hG h hf hl
  go_enter Tryd.func24, Tryd.ntmps24
  go_wp2_with fail
  refine HT.out.mono ?_
  rintro e w1 ⟨rfl, hb⟩
  go_wp2_with fail
  go_ret
  exact ⟨rfl, hb⟩
def HRel (ms : List (Nat × T)) (w : World) (i : Value) (wr : World) : Prop := ∃ k : Nat, k ≤ ms.length ∧ i = .int .i64 k ∧ Below w.heap.size w wr
def SRel (n : Nat) (w : World) (i : Value) (wr : World) : Prop := ∃ k : Nat, k ≤ n ∧ i = .int .i64 k ∧ ∃ q, wr = w.drewN q
theorem prP_len (x : List UInt8 × Int) : ([.string ⟨x.1.toArray⟩, .int .i64 x.2] : List Value).length = 2 := rfl
/-- a place of a row of steps -/
theorem rdP {w : World} {lo B : Nat} {A : Option Addr} {l : List (List UInt8 × Int)} (h : Rd w lo B 2 A l.length (cellsP l)) {i : Nat} (hi : i < l.length) :
    ∃ (ad : Addr) (x : List UInt8 × Int), A = some ad ∧ ad.block < B ∧ l[i]? = some x ∧ w.cell? (ad.add (i * 2)) = some (.string ⟨x.1.toArray⟩) ∧ w.cell? ⟨(ad.add (i * 2)).block, (ad.add (i * 2)).off + 1, none⟩ = some (.int .i64 x.2) := by
  obtain ⟨ad, x, e, _, hb, hx, hc⟩ := rdk (f := fun x : List UInt8 × Int => [.string ⟨x.1.toArray⟩, .int .i64 x.2]) prP_len h hi
  exact ⟨ad, x, e, hb, hx, hc 0 _ rfl, by rw [add_off _ _ _ (by decide)]; exact hc 1 _ rfl⟩
theorem cellsP_flat (l : List (List UInt8 × Int)) : cellsP l = l.flatMap fun x => [.string ⟨x.1.toArray⟩, .int .i64 x.2] := rfl
set_option maxHeartbeats 8000000 in
set_option maxRecDepth 100000 in
theorem FaultTells_any (v : Value) (l : List Nd) (lo : Nat) (w : World) (hG : G w) (h : Seq 6 ndC w lo w.heap.size v l) (hn : Nums l) :
    Calls Tryd.prog 6 #[v] w fun e w' => e = .returned (.bool true) ∧ Below w.heap.size w w' := by
  have HG := Lib.hid hG
  have HS := Lib.hid h
  clear hG h
  cases hs : smallB l
  · go_enter Tryd.func6, Tryd.ntmps6
    go_wp2_with fail
    refine (small_any v l lo _ w HS.out).mono ?_
    rintro e w1 ⟨rfl, rfl⟩
    rw [hs]
    go_wp2_with fail
    refine (lives_any _ HG.out).mono ?_
    rintro e w1 ⟨rfl, hb⟩
    go_wp2_with fail
    go_ret
    exact ⟨rfl, hb⟩
  · have HF := Lib.hid (small_fits hs hn)
    go_enter Tryd.func6, Tryd.ntmps6
    go_wp2_with fail
    refine (small_any v l lo _ w HS.out).mono ?_
    rintro e w1 ⟨rfl, rfl⟩
    rw [hs]
    clear hs hn
    go_wp2_with fail
    refine (play_pl v l lo w HS.out HF.out.1 HF.out.2).mono ?_
    rintro e w1 ⟨⟨made, nodes, ms, ns, rfl, hp⟩, hb1⟩
    have HP := Lib.hid hp
    have HB1 := Lib.hid hb1
    have HG1 := Lib.hid (HG.out.below hb1)
    obtain ⟨A, cap, rfl, hc1, hc2, _, _⟩ := hp.sm
    obtain ⟨A2, cap2, rfl, hd1, hd2, _, _⟩ := hp.sn
    have hlen := hp.len
    have hfew := hp.few
    unfold maxLen at hc2 hd2
    clear hp hb1
    obtain ⟨q, hq⟩ : ∃ q, ms.length = q := ⟨_, rfl⟩
    have HQ := Lib.hid hq
    obtain ⟨q', hq'⟩ : ∃ q, ns.length = q := ⟨_, rfl⟩
    have HQ' := Lib.hid hq'
    rw [hq] at hlen hc1 hfew
    rw [hq'] at hlen hd1
    rw [hq, hq']
    obtain rfl := hlen
    clear hq hq'
    have H0 := Lib.hid (show HRel ms w1 (.int .i64 0) w1 from ⟨0, Nat.zero_le _, rfl, Below.refl _ _⟩)
    go_wp2_with fail
    go_loopw [6] (fun i wr => HRel ms w1 i wr) (fun i _ => q' - (NodM.intOf i).toNat)
    case atStart => exact H0.out
    case round =>
      clear H0
      obtain ⟨k, hk, rfl, hb⟩ := hrel
      rw [HQ.out] at hk
      have HB := Lib.hid hb
      clear hb
      by_cases hlt : k < q'
      · obtain ⟨ad, x, cap', e, _, _, hx, c0, hbk, hat, hrep, hfit, htl⟩ := (HP.out.up HB.out).get (k := k) (by rw [HQ.out]; exact hlt)
        have hstl := steps_le x.2
        have HAT := Lib.hid hat
        have HREP := Lib.hid hrep
        have HFIT := Lib.hid hfit
        have HTL := Lib.hid (show (textO (some x.2)).length ≤ 1073741824 from by show x.2.text.length ≤ _; omega)
        have HSL := Lib.hid (show (stepsO (some x.2)).length ≤ 2000000 from by show x.2.steps.length ≤ _; omega)
        clear hat hrep hfit htl hstl
        obtain ⟨rfl, rfl⟩ : A = some ad ∧ cap = cap' := by injection e with e1 _ e2; exact ⟨e1, e2⟩
        clear e
        have PR := Lib.hid (show ∀ w', Below w1.heap.size w1 w' → Seq 6 ndC w' w.heap.size w'.heap.size (.slice A2 q' cap2) ns from fun w' hb => by have := (HP.out.up hb).sn; rw [HQ'.out] at this; exact this)
        have c0a := c0
        have hbk' : (ad.add k).block < wr.heap.size := by rw [add_block]; exact hbk
        go_wp2_with fail
        refine (Code_any _ (some x.2) _ ((HG1.out.below HB.out)) ⟨_, rfl, HAT.out⟩ HFIT.out).mono ?_
        rintro e w2 ⟨rfl, hb2⟩
        rw [show codeO (some x.2) = x.2.code from rfl]
        have X2 := Lib.hid (bt hb2 HB.out)
        have AT2 := Lib.hid (HAT.out.up hb2)
        have hs2 := hb2.size
        have c0b := (hb2.cell (p := ad.add k) hbk').trans c0a
        clear hb2
        go_wp2_with fail
        refine (RCode_at _ ns _ _ _ (PR.out _ X2.out) x.2 k HREP.out).mono ?_
        rintro e w3 ⟨rfl, rfl⟩
        have hne : (x.2.code != x.2.code) = false := by simp
        go_wp2_with fail
        refine (Text_any _ (some x.2) _ ((HG1.out.below X2.out)) ⟨_, rfl, AT2.out⟩ HFIT.out HTL.out).mono ?_
        rintro e w4 ⟨rfl, hb4⟩
        rw [show textO (some x.2) = x.2.text from rfl]
        have X4 := Lib.hid (bt hb4 X2.out)
        have AT4 := Lib.hid (AT2.out.up hb4)
        have hs4 := hb4.size
        have c0c := (hb4.cell (p := ad.add k) (by omega)).trans c0b
        clear hb4
        go_wp2_with fail
        refine (RText_at _ ns _ x.2 k _ (PR.out _ X4.out) HREP.out HFIT.out HTL.out).mono ?_
        rintro e w5 ⟨rfl, hb5⟩
        have X5 := Lib.hid (bt hb5 X4.out)
        have AT5 := Lib.hid (AT4.out.up hb5)
        have hs5 := hb5.size
        have c0d := (hb5.cell (p := ad.add k) (by omega)).trans c0c
        clear hb5
        go_wp2_with fail
        refine (Error_any _ (some x.2) _ ((HG1.out.below X5.out)) ⟨_, rfl, AT5.out⟩ HFIT.out HTL.out).mono ?_
        rintro e w6 ⟨rfl, hb6⟩
        rw [show textO (some x.2) = x.2.text from rfl]
        have X6 := Lib.hid (bt hb6 X5.out)
        have AT6 := Lib.hid (AT5.out.up hb6)
        have hs6 := hb6.size
        have c0e := (hb6.cell (p := ad.add k) (by omega)).trans c0d
        clear hb6
        go_wp2_with fail
        refine (RText_at _ ns _ x.2 k _ (PR.out _ X6.out) HREP.out HFIT.out HTL.out).mono ?_
        rintro e w7 ⟨rfl, hb7⟩
        have X7 := Lib.hid (bt hb7 X6.out)
        have AT7 := Lib.hid (AT6.out.up hb7)
        have hs7 := hb7.size
        have c0f := (hb7.cell (p := ad.add k) (by omega)).trans c0e
        clear hb7
        go_wp2_with fail
        refine (Steps_any _ (some x.2) _ ⟨_, rfl, AT7.out⟩ HSL.out).mono ?_
        rintro e w8 ⟨⟨r, rfl, AS, cs, rfl, hrd⟩, hb8⟩
        have hrd : Rd w8 w7.heap.size w8.heap.size 2 AS x.2.steps.length (cellsP x.2.steps) := hrd
        have X8 := Lib.hid (bt hb8 X7.out)
        clear hb8
        have HRD := Lib.hid hrd
        clear hrd
        rw [show (stepsO (some x.2)).length = x.2.steps.length from rfl]
        go_wp2_with fail
        refine (RSteps_at _ ns _ x.2 k _ (PR.out _ X8.out) HREP.out HSL.out).mono ?_
        rintro e w9 ⟨⟨r, rfl, hro⟩, hb9⟩
        obtain ⟨AC, cc, rfl, hcc1, hcc2, hrd2, _⟩ := Seq.of_own (f := fun x : List UInt8 × Int => [.string ⟨x.1.toArray⟩, .int .i64 x.2]) hro
        unfold maxLen at hcc2
        have HRD2 := Lib.hid (show Rd w9 w8.heap.size w9.heap.size 2 AC x.2.steps.length (cellsP x.2.steps) from hrd2)
        replace HRD := Lib.hid (HRD.out.below hb9)
        have X9 := Lib.hid (bt hb9 X8.out)
        clear hro hrd2 hb9
        obtain ⟨C, hC⟩ : ∃ C, x.2.steps = C := ⟨_, rfl⟩
        rw [hC] at HRD HRD2 hcc1
        rw [hC]
        obtain ⟨n, hn⟩ : ∃ n, C.length = n := ⟨_, rfl⟩
        have HN := Lib.hid hn
        rw [hn] at hcc1
        rw [hn]
        have H1 := Lib.hid (show SRel n w9 (.int .i64 0) w9 from ⟨0, Nat.zero_le _, rfl, 0, rfl⟩)
        clear hC hn hx c0a c0b c0c c0d c0e c0f
        go_wp2_with fail
        go_loopw [9] (fun i wr => SRel n w9 i wr) (fun i _ => n - (NodM.intOf i).toNat)
        case atStart => exact H1.out
        case round =>
          clear H1
          obtain ⟨j, hj, rfl, qd, rfl⟩ := hrel
          by_cases hlt2 : j < n
          · obtain ⟨ad1, y, rfl, hbd1, hy, d0, d1⟩ := rdP HRD.out (i := j) (by rw [HN.out]; exact hlt2)
            obtain ⟨ad2, z, rfl, hbd2, hz, f0, f1⟩ := rdP HRD2.out (i := j) (by rw [HN.out]; exact hlt2)
            rw [hy] at hz
            obtain rfl := Option.some.inj hz
            clear hy hz
            go_wp2_with fail
            go_quiet (fail)
            go_wp2_with fail
            exact ⟨⟨j + 1, hlt2, by go_num, _, rfl⟩, by simp [NodM.intOf]; omega⟩
          · go_wp2_with fail
            exact ⟨⟨k + 1, by rw [HQ.out]; omega, by go_num, below_drewN X9.out qd⟩, by simp [NodM.intOf]; omega⟩
      · go_wp2_with fail
        refine (Code_any (.pointer none) none _ (HG1.out.below HB.out) rfl trivial).mono ?_
        rintro e w5 ⟨rfl, hb5⟩
        rw [show codeO none = 0 from rfl]
        have X5 := Lib.hid (bt hb5 HB.out)
        clear hb5
        go_wp2_with fail
        refine (Text_any (.pointer none) none _ (HG1.out.below X5.out) rfl trivial (by decide)).mono ?_
        rintro e w6 ⟨rfl, hb6⟩
        rw [show textO none = [] from rfl]
        have X6 := Lib.hid (bt hb6 X5.out)
        clear hb6
        go_wp2_with fail
        refine (Steps_any (.pointer none) none _ rfl (by decide)).mono ?_
        rintro e w7 ⟨⟨r, rfl, AS, cs, rfl, hrd⟩, hb7⟩
        rw [show (stepsO none).length = 0 from rfl]
        have X7 := Lib.hid (bt hb7 X6.out)
        clear hb7 hrd
        go_wp2_with fail
        refine (lives_any _ (HG1.out.below X7.out)).mono ?_
        rintro e w9 ⟨rfl, hb9⟩
        have X9 := Lib.hid (bt (bt hb9 X7.out) HB1.out)
        clear hb9
        go_wp2_with fail
        go_ret
        exact ⟨rfl, X9.out⟩
end Go.Proofs.YthinjoldbjcifaaDoor.NodX
