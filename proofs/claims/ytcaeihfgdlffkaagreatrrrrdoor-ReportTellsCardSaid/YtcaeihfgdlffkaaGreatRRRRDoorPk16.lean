/- An event that was seen, a state's window: right? walked (item.RightSeen, look.window). -/
import Derived.Test.YtcaeihfgdlffkaaGreatRRRRDoorPk15
import Derived.Test.YtcaeihfgdlffkaaGreatRRRRDoorPk12
import Derived.Laws.Rows
import Derived.Deep.QuietTactic
namespace Go.Proofs.YtcaeihfgdlffkaaGreatRRRRDoor.WinW
set_option linter.unusedVariables false
set_option linter.unusedSimpArgs false
open Go.RowKit Base SeqM CfM RptC ScoX ShpM ShpT StM StV
open VisW (VIs_any)

set_option maxHeartbeats 2000000 in
set_option maxRecDepth 100000 in
theorem RightSeen_any (s : Sn) (xv : Value) (dim : Int) (lo : Nat) (w : World) (h : Seq 1 inC w lo w.heap.size xv s.xs) (hi : SnI s) :
    Calls Tryz.prog 70 #[.agg (snC (xv, s)).toArray, .int .i64 dim] w fun e w' => e = .returned (.bool (seenB dim s)) ∧ Below w.heap.size w w' := by
  have HX := Lib.hid (fun W (hw : Below w.heap.size w W) => VIs_any xv s.xs dim lo w.heap.size W (h.below hw))
  obtain ⟨A, cap, e0, hc1, hc2, _, _⟩ := h
  unfold maxLen at hc2
  have HI := Lib.hid hi
  have HS := Lib.hid (show seenB dim s = (decide (1 ≤ s.id ∧ s.id ≤ 1099511627776) && vecB s.xs dim && (if s.sc = true then isS s.p s.q else decide (s.p = 0 ∧ s.q = 0))) from rfl)
  obtain ⟨id, xs, p, q, sc⟩ := s
  unfold snC
  dsimp only at HX HI HS e0 hc1 ⊢
  generalize seenB dim ⟨id, xs, p, q, sc⟩ = R at *
  generalize vecB xs dim = V at *
  generalize xs.length = n at *
  subst e0
  clear hi
  by_cases h1 : id < 1
  · have F := Lib.hid (show R = false by rw [HS.out, decide_eq_false (by omega)]; rfl)
    go_enter Tryz.func70, Tryz.ntmps70
    go_wp2_with fail
    go_ret
    exact ⟨by rw [F.out]; rfl, below_a1 _ _⟩
  by_cases h2 : 1099511627776 < id
  · have F := Lib.hid (show R = false by rw [HS.out, decide_eq_false (by omega)]; rfl)
    go_enter Tryz.func70, Tryz.ntmps70
    go_wp2_with fail
    go_ret
    exact ⟨by rw [F.out]; rfl, below_a1 _ _⟩
  have HR := Lib.hid (show R = (V && (if sc = true then isS p q else decide (p = 0 ∧ q = 0))) by rw [HS.out, decide_eq_true (by omega)]; simp)
  go_enter Tryz.func70, Tryz.ntmps70
  go_wp2_with fail
  refine (HX.out _ (below_a1 w _)).mono ?_
  rintro e w1 ⟨rfl, rfl⟩
  cases V
  · have F := Lib.hid (show R = false by rw [HR.out]; rfl)
    go_wp2_with fail
    go_ret
    exact ⟨by rw [F.out]; rfl, below_a1 _ _⟩
  · cases sc
    · by_cases hp : p = 0
      · by_cases hq : q = 0
        · have F := Lib.hid (show R = true by rw [HR.out]; simp [hp, hq])
          subst hp hq
          go_wp2_with fail
          go_ret
          exact ⟨by rw [F.out]; rfl, below_a1 _ _⟩
        · have F := Lib.hid (show R = false by rw [HR.out]; simp [hq])
          have hq0 : (q == 0) = false := by simpa using hq
          go_wp2_with fail
          go_ret
          exact ⟨by rw [F.out]; rfl, below_a1 _ _⟩
      · have F := Lib.hid (show R = false by rw [HR.out]; simp [hp])
        have hp0 : (p == 0) = false := by simpa using hp
        go_wp2_with fail
        go_ret
        exact ⟨by rw [F.out]; rfl, below_a1 _ _⟩
    · have F := Lib.hid (show R = isS p q by rw [HR.out]; simp)
      go_wp2_with fail
      refine (SIs_any p q _ HI.out.2).mono ?_
      rintro e w2 ⟨rfl, hb2⟩
      have HB2 := Lib.hid (bt hb2 (below_a1 w _))
      have d4 : w2.cell? ⟨w.heap.size, 4, none⟩ = some (.bool true) := keepA hb2 (by go_simp)
      clear hb2
      cases hs : isS p q
      · have F2 := Lib.hid (F.out.trans hs)
        clear hs
        go_wp2_with fail
        go_ret
        exact ⟨by rw [F2.out]; rfl, HB2.out⟩
      · have F2 := Lib.hid (F.out.trans hs)
        clear hs
        go_wp2_with fail
        go_ret
        exact ⟨by rw [F2.out]; rfl, HB2.out⟩
/-- the cells of what a state is looked at with -/
def lkC (s : St) (wv fv av : Value) (f : Int) : List Value := stC s wv fv av ++ [.int .i64 f]
def WRel (first dim L : Int) (R : Bool) (l : List Sn) (n0 : Int) (w : World) (last n i : Value) (wr : World) : Prop := ∃ (k : Nat) (a : Int), k ≤ l.length ∧ i = .int .i64 k ∧ n = .int .i64 (n0 + k) ∧ last = .int .i64 a ∧
  R = winB first dim a (n0 + k) (l.drop k) L ∧ Below w.heap.size w wr
theorem win_step {first dim L last n : Int} {l : List Sn} {k : Nat} {x : Sn} (hx : l[k]? = some x) : winB first dim last n (l.drop k) L = (decide (last < x.id) && (x.sc == decide (first < n + 1)) && seenB dim x && winB first dim x.id (n + 1) (l.drop (k + 1)) L) := by
  have hk := (List.getElem?_eq_some_iff.1 hx).1
  rw [List.drop_eq_getElem_cons hk, (List.getElem?_eq_some_iff.1 hx).2, winB]
set_option maxHeartbeats 4000000 in
set_option maxRecDepth 100000 in
theorem window_any (s : St) (wv fv av : Value) (f : Int) (w : World) (h : Sns w 0 w.heap.size wv s.win) (hi : ∀ x ∈ s.win, SnI x) (hv : (∃ a n c, fv = .slice a n c) ∧ ∃ a n c, av = .slice a n c) (hc : 2 ≤ s.cf.c1 ∧ s.cf.c1 ≤ 256) (hn : cnt s.count) :
    Calls Tryz.prog 39 #[.agg (lkC s wv fv av f).toArray] w fun e w' =>
      e = .returned (.bool (decide ((s.win.length : Int) = min s.count s.cf.c1) && winB f s.cf.c0 0 (s.count - s.win.length) s.win s.last)) ∧ Below w.heap.size w w' := by
  have HS := Lib.hid h
  have HI := Lib.hid hi
  obtain ⟨A, cap, rfl, hc1, hc2, _⟩ := h.form
  obtain ⟨⟨a1, n1, c1', rfl⟩, a2, n2, c2', rfl⟩ := hv
  obtain ⟨⟨c0, c1, c2, c3, c4, c5, c6, c7, c8, c9, c10⟩, count, last, seq, win, forest, alerts⟩ := s
  unfold lkC stC CfM.cfC
  unfold cnt at hn
  dsimp only [List.cons_append, List.nil_append] at HS HI hc hn hc1 ⊢
  obtain ⟨n, hn'⟩ : ∃ n, win.length = n := ⟨_, rfl⟩
  have HN := Lib.hid hn'
  rw [hn'] at HS hc1 ⊢
  clear h hi hn'
  obtain ⟨W, eW⟩ : ∃ W, w.alloc (.cells #[.int .i64 c0, .int .i64 c1, .int .i64 c2, .int .i64 c3, .int .i64 c4, .int .i64 c5, .int .i64 c6, .int .i64 c7, .int .i64 c8, .int .i64 c9, .int .i64 c10, .int .i64 count, .int .i64 last, .int .i64 seq, .slice A n cap, .slice a1 n1 c1', .slice a2 n2 c2', .int .i64 f] 84) = W := ⟨_, rfl⟩
  have HB := Lib.hid (show Below w.heap.size w W by rw [← eW]; exact below_a1 _ _)
  have HCS := Lib.hid (show ∀ W' : World, Below W.heap.size W W' → (W'.cell? ⟨w.heap.size, 0, none⟩ = some (.int .i64 c0) ∧ W'.cell? ⟨w.heap.size, 1, none⟩ = some (.int .i64 c1) ∧ W'.cell? ⟨w.heap.size, 11, none⟩ = some (.int .i64 count) ∧ W'.cell? ⟨w.heap.size, 12, none⟩ = some (.int .i64 last) ∧ W'.cell? ⟨w.heap.size, 14, none⟩ = some (.slice A n cap) ∧ W'.cell? ⟨w.heap.size, 17, none⟩ = some (.int .i64 f)) by
    intro W' hb
    subst eW
    refine ⟨keepA hb ?_, keepA hb ?_, keepA hb ?_, keepA hb ?_, keepA hb ?_, keepA hb ?_⟩ <;> go_simp)
  obtain ⟨d0, d1, d11, d12, d14, d17⟩ := HCS.out W (Below.refl _ _)
  obtain ⟨M, hM⟩ : ∃ M, min count c1 = M := ⟨_, rfl⟩
  have hMb : 0 ≤ M ∧ M ≤ 256 := by omega
  by_cases hlen : (n : Int) = M
  · have hlb : ((n : Int) != M) = false := by simpa using hlen
    have hwr : IntKind.i64.wrap (count - (n : Int)) = count - (n : Int) := IntWalk.i64_in _ (by omega)
    obtain ⟨R, hR⟩ : ∃ R, winB f c0 0 (count - (n : Int)) win last = R := ⟨_, rfl⟩
    have HR := Lib.hid hR
    have HF := Lib.hid (show (decide ((n : Int) = min count c1) && winB f c0 0 (count - (n : Int)) win last) = R by rw [hM, decide_eq_true hlen, hR]; rfl)
    rw [HF.out]
    clear hR
    go_enter Tryz.func39, Tryz.ntmps39
    go_wp2_with fail
    go_quiet (fail)
    go_wp2_with fail
    generalize hN0 : count - (n : Int) = N0 at *
    have hb0 : -256 ≤ N0 ∧ N0 ≤ 1099511627776 := by omega
    go_loopw [3, 4, 32] (fun l m i wr => WRel f c0 last R win N0 W l m i wr) (fun _ _ i _ => n - (intOf i).toNat)
    case atStart => exact ⟨0, 0, Nat.zero_le _, rfl, congrArg (Value.int IntKind.i64) (by omega), rfl, by simpa using HR.out.symm, below_drewN (Below.refl _ W) nq⟩
    case round =>
      obtain ⟨k, a, hk, rfl, rfl, rfl, hR, hbr⟩ := hrel
      rw [HN.out] at hk
      have HBR := Lib.hid hbr
      have HRR := Lib.hid hR
      clear hR
      obtain ⟨e0, e1, e11, e12, e14, e17⟩ := HCS.out wr hbr
      clear d0 d1 d11 d12 d14 d17
      by_cases hlt : k < n
      · obtain ⟨x, hx⟩ : ∃ x, win[k]? = some x := ⟨_, List.getElem?_eq_getElem (by rw [HN.out]; exact hlt)⟩
        obtain ⟨ad, xv, rfl, hbk, hcs, hxs⟩ := (HS.out.up (bt hbr HB.out)).get hx
        have HST := Lib.hid (HRR.out.trans (win_step hx))
        have hxi := HI.out x (List.mem_of_getElem? hx)
        have HRS := Lib.hid (fun W' (hw : Below wr.heap.size wr W') => RightSeen_any x xv c0 0 W' (hxs.up hw) hxi)
        obtain ⟨XA, xc, hxf, hxc1, hxc2, _, _⟩ := hxs
        unfold maxLen at hxc2
        obtain ⟨id, xs, p, q, sc⟩ := x
        have g0 : wr.cell? (ad.add (k * 5)) = some (.int .i64 id) := hcs 0 _ rfl
        have gf : ∀ j u, (snC (xv, ⟨id, xs, p, q, sc⟩))[j]? = some u → j ≠ 0 → wr.cell? ⟨(ad.add (k * 5)).block, (ad.add (k * 5)).off + j, none⟩ = some u := fun j u hu hj => by rw [add_off _ _ _ hj]; exact hcs j u hu
        have g1 := gf 1 _ rfl (by decide)
        have g2 := gf 2 _ rfl (by decide)
        have g3 := gf 3 _ rfl (by decide)
        have g4 := gf 4 _ rfl (by decide)
        unfold snC at HRS
        dsimp only at g1 g2 g3 g4 HST HRS hxf hxc1
        obtain ⟨xn, hxn⟩ : ∃ xn, xs.length = xn := ⟨_, rfl⟩
        rw [hxn] at hxf hxc1
        subst hxf
        have hw1 : IntKind.i64.wrap (N0 + (k : Int) + 1) = N0 + (k : Int) + 1 := IntWalk.i64_in _ (by omega)
        have hk1 : N0 + (k : Int) + 1 = N0 + ((k + 1 : Nat) : Int) := by omega
        have hk2 : N0 + ((k + 1 : Nat) : Int) = N0 + (k : Int) + 1 := by omega
        have hzs : w.heap.size < wr.heap.size := World.block_lt_of_cell? _ _ e0
        clear gf hcs hx hxi hxn hbr hN0
        by_cases h1 : a < id
        · by_cases hg : f < N0 + (k : Int) + 1
          · have hgd : decide (f < N0 + (k : Int) + 1) = true := decide_eq_true hg
            cases sc
            · have F := Lib.hid (show R = false by rw [HST.out]; rw [hgd]; simp)
              go_wp2_with fail
              go_ret
              exact ⟨by rw [F.out]; rfl, (bt (HBR.out.trans ((below_a1 wr _).mono HBR.out.size)) HB.out)⟩
            · have hg2 : (true == decide (f < N0 + (k : Int) + 1)) = true := by rw [hgd]; rfl
              go_wp2_with fail
              refine (HRS.out _ (below_a1 wr _)).mono ?_
              rintro e w5 ⟨rfl, hb5⟩
              have b0 : w5.cell? ⟨wr.heap.size, 0, none⟩ = some (.int .i64 id) := keepA hb5 (by go_simp)
              have HB5 := Lib.hid (bt hb5 (below_a1 wr (.cells #[.int .i64 id, .slice XA xn xc, .int .i64 p, .int .i64 q, .bool true] 59)))
              have HB6 := Lib.hid (show Below W.heap.size W w5 from HBR.out.trans (HB5.out.mono HBR.out.size))
              clear hb5 g0 g1 g2 g3 g4
              cases hsb : seenB c0 ⟨id, xs, p, q, true⟩
              · have F := Lib.hid (show R = false by rw [HST.out, hsb]; simp)
                clear hsb
                go_wp2_with fail
                go_ret
                exact ⟨by rw [F.out]; rfl, bt HB6.out HB.out⟩
              · have F := Lib.hid (show R = winB f c0 id (N0 + k + 1) (win.drop (k + 1)) last by rw [HST.out, hsb, decide_eq_true h1, hg2]; simp)
                clear hsb
                go_wp2_with fail
                exact ⟨⟨k + 1, id, by rw [HN.out]; omega, by go_num, congrArg (Value.int IntKind.i64) (by omega), rfl, by rw [hk2]; exact F.out, HB6.out⟩, by simp [intOf]; omega⟩
          · have hgd : decide (f < N0 + (k : Int) + 1) = false := decide_eq_false hg
            cases sc
            · have hg2 : (false == decide (f < N0 + (k : Int) + 1)) = true := by rw [hgd]; rfl
              go_wp2_with fail
              refine (HRS.out _ (below_a1 wr _)).mono ?_
              rintro e w5 ⟨rfl, hb5⟩
              have b0 : w5.cell? ⟨wr.heap.size, 0, none⟩ = some (.int .i64 id) := keepA hb5 (by go_simp)
              have HB5 := Lib.hid (bt hb5 (below_a1 wr (.cells #[.int .i64 id, .slice XA xn xc, .int .i64 p, .int .i64 q, .bool false] 59)))
              have HB6 := Lib.hid (show Below W.heap.size W w5 from HBR.out.trans (HB5.out.mono HBR.out.size))
              clear hb5 g0 g1 g2 g3 g4
              cases hsb : seenB c0 ⟨id, xs, p, q, false⟩
              · have F := Lib.hid (show R = false by rw [HST.out, hsb]; simp)
                clear hsb
                go_wp2_with fail
                go_ret
                exact ⟨by rw [F.out]; rfl, bt HB6.out HB.out⟩
              · have F := Lib.hid (show R = winB f c0 id (N0 + k + 1) (win.drop (k + 1)) last by rw [HST.out, hsb, decide_eq_true h1, hg2]; simp)
                clear hsb
                go_wp2_with fail
                exact ⟨⟨k + 1, id, by rw [HN.out]; omega, by go_num, congrArg (Value.int IntKind.i64) (by omega), rfl, by rw [hk2]; exact F.out, HB6.out⟩, by simp [intOf]; omega⟩
            · have F := Lib.hid (show R = false by rw [HST.out]; rw [hgd]; simp)
              go_wp2_with fail
              go_ret
              exact ⟨by rw [F.out]; rfl, (bt (HBR.out.trans ((below_a1 wr _).mono HBR.out.size)) HB.out)⟩
        · have F := Lib.hid (show R = false by rw [HST.out]; rw [decide_eq_false h1]; simp)
          go_wp2_with fail
          go_ret
          exact ⟨by rw [F.out]; rfl, (bt (HBR.out.trans ((below_a1 wr _).mono HBR.out.size)) HB.out)⟩
      · have hkn : k = n := by omega
        have F := Lib.hid (show R = decide (last = a) by rw [HRR.out, List.drop_eq_nil_of_le (by rw [HN.out]; omega), winB])
        clear hbr hN0
        by_cases hla : last = a
        · have F2 := Lib.hid (F.out.trans (decide_eq_true hla))
          have hlb2 : (last == a) = true := by simpa using hla
          go_wp2_with fail
          go_ret
          exact ⟨by rw [F2.out]; rfl, bt HBR.out HB.out⟩
        · have F2 := Lib.hid (F.out.trans (decide_eq_false hla))
          have hlb2 : (last == a) = false := by simpa using hla
          go_wp2_with fail
          go_ret
          exact ⟨by rw [F2.out]; rfl, bt HBR.out HB.out⟩
  · have hlb : ((n : Int) != M) = true := by rw [bne_iff_ne]; exact hlen
    have HF := Lib.hid (show (decide ((n : Int) = min count c1) && winB f c0 0 (count - (n : Int)) win last) = false by rw [hM, decide_eq_false hlen]; rfl)
    rw [HF.out]
    go_enter Tryz.func39, Tryz.ntmps39
    go_wp2_with fail
    go_ret
    exact ⟨rfl, HB.out⟩
end Go.Proofs.YtcaeihfgdlffkaaGreatRRRRDoor.WinW
