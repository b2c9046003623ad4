/- An event, a window after the document, walked (copseref22.RightSeen, copseref28.window; printed by mkrwn.py). -/
import Derived.Test.YtcaeihfgdlffkaaGreatRRRRDoorPk22
import Derived.Test.YtcaeihfgdlffkaaGreatRRRRDoorPk16
namespace Go.Proofs.YtcaeihfgdlffkaaGreatRRRRDoor.RswW
set_option linter.unusedVariables false
set_option linter.unusedSimpArgs false
open Go.RowKit Base SeqM CfM RptC ScoX ShpM ShpT StM StV HyW RscZ
open WinW (win_step)
open RalW (RIs_any)
theorem gi {L : List Oper} {i : Nat} {o : Oper} (h : L[i]? = some o) : L.toArray[i]? = some o := by simpa using h

set_option maxHeartbeats 2000000 in
set_option maxRecDepth 100000 in
theorem RRightSeen_any (s : Sn) (xv : Value) (dim : Int) (lo : Nat) (w : World) (h : Seq 1 inC w lo w.heap.size xv s.xs) (hi : SnI s) :
    Calls Tryz.prog 75 #[.agg (snC (xv, s)).toArray, .int .i64 dim] w fun e w' => e = .returned (.bool (seenB dim s)) ∧ Below w.heap.size w w' := by
  have HX := Lib.hid (fun W (hw : Below w.heap.size w W) => RIs_any xv s.xs dim lo w.heap.size W (h.below hw))
  obtain ⟨A, cap, e0, hc1, hc2, _, _⟩ := h
  unfold maxLen at hc2
  have HI := Lib.hid hi
  have HS := Lib.hid (show seenB dim s = (decide (1 ≤ s.id ∧ s.id ≤ 1099511627776) && vecB s.xs dim && (if s.sc = true then isS s.p s.q else decide (s.p = 0 ∧ s.q = 0))) from rfl)
  obtain ⟨id, xs, p, q, sc⟩ := s
  unfold snC
  dsimp only at HX HI HS e0 hc1 ⊢
  generalize seenB dim ⟨id, xs, p, q, sc⟩ = R at *
  generalize vecB xs dim = V at *
  generalize xs.length = n at *
  subst e0
  clear hi
  by_cases h1 : id < 1
  · have F := Lib.hid (show R = false by rw [HS.out, decide_eq_false (by omega)]; rfl)
    go_enter Tryz.func75, Tryz.ntmps75
    go_wp2_with fail
    go_ret
    exact ⟨by rw [F.out]; rfl, below_a1 _ _⟩
  by_cases h2 : 1099511627776 < id
  · have F := Lib.hid (show R = false by rw [HS.out, decide_eq_false (by omega)]; rfl)
    go_enter Tryz.func75, Tryz.ntmps75
    go_wp2_with fail
    go_ret
    exact ⟨by rw [F.out]; rfl, below_a1 _ _⟩
  have HR := Lib.hid (show R = (V && (if sc = true then isS p q else decide (p = 0 ∧ q = 0))) by rw [HS.out, decide_eq_true (by omega)]; simp)
  go_enter Tryz.func75, Tryz.ntmps75
  go_wp2_with fail
  refine (HX.out _ (below_a1 w _)).mono ?_
  rintro e w1 ⟨rfl, rfl⟩
  cases V
  · have F := Lib.hid (show R = false by rw [HR.out]; rfl)
    go_wp2_with fail
    go_ret
    exact ⟨by rw [F.out]; rfl, below_a1 _ _⟩
  · cases sc
    · by_cases hp : p = 0
      · by_cases hq : q = 0
        · have F := Lib.hid (show R = true by rw [HR.out]; simp [hp, hq])
          subst hp hq
          go_wp2_with fail
          go_ret
          exact ⟨by rw [F.out]; rfl, below_a1 _ _⟩
        · have F := Lib.hid (show R = false by rw [HR.out]; simp [hq])
          have hq0 : (q == 0) = false := by simpa using hq
          subst hp
          go_wp2_with fail
          go_ret
          exact ⟨by rw [F.out]; rfl, below_a1 _ _⟩
      · have F := Lib.hid (show R = false by rw [HR.out]; simp [hp])
        have hp0 : (p == 0) = false := by simpa using hp
        go_wp2_with fail
        go_ret
        exact ⟨by rw [F.out]; rfl, below_a1 _ _⟩
    · have F := Lib.hid (show R = isS p q by rw [HR.out]; simp)
      go_wp2_with fail
      refine (RSIs_any p q _ HI.out.2).mono ?_
      rintro e w2 ⟨rfl, hb2⟩
      have HB2 := Lib.hid (bt hb2 (below_a1 w _))
      clear hb2
      generalize isS p q = I at *
      go_wp2_with fail
      go_ret
      exact ⟨by rw [F.out]; rfl, HB2.out⟩
def WR2 (first dim L : Int) (R : Bool) (l : List Sn) (n0 : Int) (w : World) (last i : Value) (wr : World) : Prop := ∃ (k : Nat) (a : Int), k ≤ l.length ∧ i = .int .i64 k ∧ last = .int .i64 a ∧
  R = winB first dim a (n0 + k) (l.drop k) L ∧ Below w.heap.size w wr
set_option maxHeartbeats 4000000 in
set_option maxRecDepth 100000 in
theorem Rwindow_any (s : St) (wv fv av : Value) (w : World) (h : Sns w 0 w.heap.size wv s.win) (hi : ∀ x ∈ s.win, SnI x) (hv : (∃ a n c, fv = .slice a n c) ∧ ∃ a n c, av = .slice a n c) (hc : confOk s.cf) (hn : cnt s.count) :
    Calls Tryz.prog 43 #[.agg (stC s wv fv av).toArray] w fun e w' => e = .returned (.bool (windowB s)) ∧ Below w.heap.size w w' := by
  have HS := Lib.hid h
  have HI := Lib.hid hi
  have htn := fun W => turn_ok s.cf 0 hc (by decide) W
  simp only [Int.zero_mul, Int.add_zero] at htn
  have HTN := Lib.hid htn
  have hcc : 2 ≤ s.cf.c1 ∧ s.cf.c1 ≤ 256 := by unfold confOk at hc; omega
  have HWB := Lib.hid (show windowB s = (decide ((s.win.length : Int) = min s.count s.cf.c1) && winB (nextC s.cf 0) s.cf.c0 0 (s.count - s.win.length) s.win s.last) from rfl)
  obtain ⟨A, cap, rfl, hc1, hc2, _⟩ := h.form
  obtain ⟨⟨a1, n1, c1', rfl⟩, a2, n2, c2', rfl⟩ := hv
  generalize nextC s.cf 0 = f at *
  obtain ⟨⟨c0, c1, c2, c3, c4, c5, c6, c7, c8, c9, c10⟩, count, last, seq, win, forest, alerts⟩ := s
  unfold stC
  unfold CfM.cfC at HTN ⊢
  unfold cnt at hn
  dsimp only [List.cons_append, List.nil_append] at HS HI HTN HWB hcc hn hc1 ⊢
  generalize windowB ⟨⟨c0, c1, c2, c3, c4, c5, c6, c7, c8, c9, c10⟩, count, last, seq, win, forest, alerts⟩ = R at *
  obtain ⟨n, hn'⟩ : ∃ n, win.length = n := ⟨_, rfl⟩
  have HN := Lib.hid hn'
  rw [hn'] at HS HWB hc1 ⊢
  clear h hi hn' hc htn
  obtain ⟨W, eW⟩ : ∃ W, w.alloc (.cells #[.int .i64 c0, .int .i64 c1, .int .i64 c2, .int .i64 c3, .int .i64 c4, .int .i64 c5, .int .i64 c6, .int .i64 c7, .int .i64 c8, .int .i64 c9, .int .i64 c10, .int .i64 count, .int .i64 last, .int .i64 seq, .slice A n cap, .slice a1 n1 c1', .slice a2 n2 c2'] 28) = W := ⟨_, rfl⟩
  have HB := Lib.hid (show Below w.heap.size w W by rw [← eW]; exact below_a1 _ _)
  have HCS := Lib.hid (show ∀ W' : World, Below W.heap.size W W' → (W'.cell? ⟨w.heap.size, 0, none⟩ = some (.int .i64 c0) ∧ W'.cell? ⟨w.heap.size, 1, none⟩ = some (.int .i64 c1) ∧ W'.cell? ⟨w.heap.size, 2, none⟩ = some (.int .i64 c2) ∧ W'.cell? ⟨w.heap.size, 3, none⟩ = some (.int .i64 c3) ∧ W'.cell? ⟨w.heap.size, 4, none⟩ = some (.int .i64 c4) ∧ W'.cell? ⟨w.heap.size, 5, none⟩ = some (.int .i64 c5) ∧ W'.cell? ⟨w.heap.size, 6, none⟩ = some (.int .i64 c6) ∧ W'.cell? ⟨w.heap.size, 7, none⟩ = some (.int .i64 c7) ∧ W'.cell? ⟨w.heap.size, 8, none⟩ = some (.int .i64 c8) ∧ W'.cell? ⟨w.heap.size, 9, none⟩ = some (.int .i64 c9) ∧ W'.cell? ⟨w.heap.size, 10, none⟩ = some (.int .i64 c10)) by
    intro W' hb
    subst eW
    refine ⟨keepA hb ?_, keepA hb ?_, keepA hb ?_, keepA hb ?_, keepA hb ?_, keepA hb ?_, keepA hb ?_, keepA hb ?_, keepA hb ?_, keepA hb ?_, keepA hb ?_⟩ <;> go_simp)
  have HC2 := Lib.hid (show ∀ W' : World, Below W.heap.size W W' → (W'.cell? ⟨w.heap.size, 11, none⟩ = some (.int .i64 count) ∧ W'.cell? ⟨w.heap.size, 12, none⟩ = some (.int .i64 last) ∧ W'.cell? ⟨w.heap.size, 14, none⟩ = some (.slice A n cap)) by
    intro W' hb
    subst eW
    refine ⟨keepA hb ?_, keepA hb ?_, keepA hb ?_⟩ <;> go_simp)
  obtain ⟨d11, d12, d14⟩ := HC2.out W (Below.refl _ _)
  have d1 := (HCS.out W (Below.refl _ _)).2.1
  have HNO := Lib.hid (fun (h : ¬ (n : Int) = min count c1) => show R = false by rw [HWB.out, decide_eq_false h]; rfl)
  have HYES := Lib.hid (fun (h : (n : Int) = min count c1) => show R = winB f c0 0 (count - n) win last by rw [HWB.out, decide_eq_true h]; rfl)
  by_cases hlen : (n : Int) = min count c1
  · have HRW := Lib.hid (HYES.out hlen)
    obtain ⟨M, hM⟩ : ∃ M, count - (n : Int) = M := ⟨_, rfl⟩
    have HMM := Lib.hid hM
    rw [hM] at HRW
    have hM0 : 0 ≤ M ∧ M ≤ 1099511627776 := by omega
    have HSTART := Lib.hid (show WR2 f c0 last R win M W (.int .i64 0) (.int .i64 0) W from ⟨0, 0, Nat.zero_le _, rfl, rfl, by simpa using HRW.out, Below.refl _ _⟩)
    have hn256 : n ≤ 256 := by omega
    by_cases hA : (n : Int) = count
    · have hA0 : ((n : Int) != count) = false := by simpa using hA
      have hB1 : decide (count < (n : Int)) = false := decide_eq_false (by omega)
      have hB2 : decide (c1 < (n : Int)) = false := decide_eq_false (by omega)
      clear hlen hA hM
      go_enter Tryz.func43, Tryz.ntmps43
      go_wp2_with fail
      go_loopw [3, 4] (fun l i wr => WR2 f c0 last R win M W l i wr) (fun _ i _ => n - (intOf i).toNat)
      case atStart => exact HSTART.out
      case round =>
        obtain ⟨k, a, hk, rfl, rfl, hR, hbr⟩ := hrel
        rw [HN.out] at hk
        have HBR := Lib.hid hbr
        have HRR := Lib.hid hR
        clear hR d11 d12 d14 d1
        obtain ⟨e11, e12, e14⟩ := HC2.out wr hbr
        by_cases hlt : k < n
        · obtain ⟨x, hx⟩ : ∃ x, win[k]? = some x := ⟨_, List.getElem?_eq_getElem (by rw [HN.out]; exact hlt)⟩
          obtain ⟨ad, xv, rfl, hbk, hcs, hxs⟩ := (HS.out.up (bt hbr HB.out)).get hx
          have HST := Lib.hid (HRR.out.trans (win_step hx))
          have hxi := HI.out x (List.mem_of_getElem? hx)
          have HRS := Lib.hid (fun W' (hw : Below wr.heap.size wr W') => RRightSeen_any x xv c0 0 W' (hxs.up hw) hxi)
          obtain ⟨XA, xc, hxf, hxc1, hxc2, _, _⟩ := hxs
          unfold maxLen at hxc2
          obtain ⟨id, xs, p, q, sc⟩ := x
          have g0 : wr.cell? (ad.add (k * 5)) = some (.int .i64 id) := hcs 0 _ rfl
          have gf : ∀ j u, (snC (xv, ⟨id, xs, p, q, sc⟩))[j]? = some u → j ≠ 0 → wr.cell? ⟨(ad.add (k * 5)).block, (ad.add (k * 5)).off + j, none⟩ = some u := fun j u hu hj => by rw [add_off _ _ _ hj]; exact hcs j u hu
          have g1 := gf 1 _ rfl (by decide)
          have g2 := gf 2 _ rfl (by decide)
          have g3 := gf 3 _ rfl (by decide)
          have g4 := gf 4 _ rfl (by decide)
          unfold snC at HRS
          dsimp only at g1 g2 g3 g4 HST HRS hxf hxc1
          generalize seenB c0 ⟨id, xs, p, q, sc⟩ = SB at *
          obtain ⟨xn, hxn⟩ : ∃ xn, xs.length = xn := ⟨_, rfl⟩
          rw [hxn] at hxf hxc1
          subst hxf
          obtain ⟨N1, hN1⟩ : ∃ N1, M + 1 + (k : Int) = N1 := ⟨_, rfl⟩
          have HK1 := Lib.hid (show M + (k : Int) + 1 = N1 by omega)
          have HKN := Lib.hid (show M + ((k + 1 : Nat) : Int) = N1 by omega)
          rw [HK1.out] at HST
          have hM2 : count - (n : Int) = M := HMM.out
          have hwN : IntKind.i64.wrap (M + 1 + (k : Int)) = N1 := by rw [hN1]; exact IntWalk.i64_in _ (by omega)
          have hwN1 : IntKind.i64.wrap (M + 1) = M + 1 := IntWalk.i64_in _ (by omega)
          have hwN2 : IntKind.i64.wrap M = M := IntWalk.i64_in _ (by omega)
          have hN1b : 0 ≤ N1 ∧ N1 ≤ 1099511628000 := by omega
          have hzs : w.heap.size < wr.heap.size := World.block_lt_of_cell? _ _ e11
          obtain ⟨X, eX⟩ : ∃ X, wr.alloc (.cells #[.int .i64 id, .slice XA xn xc, .int .i64 p, .int .i64 q, .bool sc] 59) = X := ⟨_, rfl⟩
          have HBX := Lib.hid (show Below wr.heap.size wr X by rw [← eX]; exact below_a1 _ _)
          have HBX2 := Lib.hid (show Below W.heap.size W X from bt HBX.out HBR.out)
          have HX5 := Lib.hid (show ∀ W' : World, Below X.heap.size X W' → (W'.cell? ⟨wr.heap.size, 0, none⟩ = some (.int .i64 id) ∧ W'.cell? ⟨wr.heap.size, 1, none⟩ = some (.slice XA xn xc) ∧ W'.cell? ⟨wr.heap.size, 2, none⟩ = some (.int .i64 p) ∧ W'.cell? ⟨wr.heap.size, 3, none⟩ = some (.int .i64 q) ∧ W'.cell? ⟨wr.heap.size, 4, none⟩ = some (.bool sc)) by
            intro W' hb
            subst eX
            refine ⟨keepA hb ?_, keepA hb ?_, keepA hb ?_, keepA hb ?_, keepA hb ?_⟩ <;> go_simp)
          obtain ⟨r11, -, r14⟩ := HC2.out X HBX2.out
          clear gf hcs hx hxi hxn hbr hbk hN1 e12
          cases SB
          · have F := Lib.hid (show R = false by rw [HST.out]; simp)
            go_wp2_with fail
            refine regionZ 21 (fun w' => (w'.cell? ⟨wr.heap.size, 0, none⟩ = some (.int .i64 id) ∧ w'.cell? ⟨wr.heap.size, 1, none⟩ = some (.slice XA xn xc) ∧ w'.cell? ⟨wr.heap.size, 2, none⟩ = some (.int .i64 p) ∧ w'.cell? ⟨wr.heap.size, 3, none⟩ = some (.int .i64 q) ∧ w'.cell? ⟨wr.heap.size, 4, none⟩ = some (.bool sc)) ∧ w'.cell? ⟨w.heap.size, 0, none⟩ = some (.int .i64 c0) ∧ w'.cell? ⟨w.heap.size, 1, none⟩ = some (.int .i64 c1) ∧ w'.cell? ⟨w.heap.size, 2, none⟩ = some (.int .i64 c2) ∧ w'.cell? ⟨w.heap.size, 3, none⟩ = some (.int .i64 c3) ∧ w'.cell? ⟨w.heap.size, 4, none⟩ = some (.int .i64 c4) ∧ w'.cell? ⟨w.heap.size, 5, none⟩ = some (.int .i64 c5) ∧ w'.cell? ⟨w.heap.size, 6, none⟩ = some (.int .i64 c6) ∧ w'.cell? ⟨w.heap.size, 7, none⟩ = some (.int .i64 c7) ∧ w'.cell? ⟨w.heap.size, 8, none⟩ = some (.int .i64 c8) ∧ w'.cell? ⟨w.heap.size, 9, none⟩ = some (.int .i64 c9) ∧ w'.cell? ⟨w.heap.size, 10, none⟩ = some (.int .i64 c10)) (by kernel_rfl) (⟨HX5.out _ (Below.refl _ X).drew, HCS.out _ HBX2.out.drew⟩) (fun hH => ?_)
            refine takeZ 0 (v := ?_) (gi rfl) (by kernel_rfl) (fun _ _ _ h => h) hH (.inl ⟨rfl, fun w hW => ?_⟩) ?_
            rotate_left
            · (obtain ⟨⟨hX0, hX1, hX2, hX3, hX4⟩, hW0, hW1, hW2, hW3, hW4, hW5, hW6, hW7, hW8, hW9, hW10⟩ := hW; go_simp; try with_reducible rfl)
            try simp only [Act.put, List.setIfInBounds_toArray, List.set_cons_zero, List.set_cons_succ]
            refine takeZ 1 (v := ?_) (gi rfl) (by kernel_rfl) (fun _ _ _ h => h) hH (.inl ⟨rfl, fun w hW => ?_⟩) ?_
            rotate_left
            · (go_simp; try with_reducible rfl)
            try simp only [Act.put, List.setIfInBounds_toArray, List.set_cons_zero, List.set_cons_succ]
            refine takeZ 2 (v := ?_) (gi rfl) (by kernel_rfl) (fun _ _ _ h => h) hH (.inl ⟨rfl, fun w hW => ?_⟩) ?_
            rotate_left
            · (go_simp; try with_reducible rfl)
            try simp only [Act.put, List.setIfInBounds_toArray, List.set_cons_zero, List.set_cons_succ]
            refine takeZ 3 (v := ?_) (gi rfl) (by kernel_rfl) (fun _ _ _ h => h) hH (.inl ⟨rfl, fun w hW => ?_⟩) ?_
            rotate_left
            · (obtain ⟨⟨hX0, hX1, hX2, hX3, hX4⟩, hW0, hW1, hW2, hW3, hW4, hW5, hW6, hW7, hW8, hW9, hW10⟩ := hW; go_simp; try with_reducible rfl)
            try simp only [Act.put, List.setIfInBounds_toArray, List.set_cons_zero, List.set_cons_succ]
            refine oneZ 4 (by kernel_rfl) (gi rfl) (fun K hK => ?_)
            try simp only [Act.put, List.setIfInBounds_toArray, List.set_cons_zero, List.set_cons_succ]
            go_simp
            refine (HRS.out X.drew HBX.out.drew).mono ?_
            rintro e x1 ⟨rfl, hb1⟩
            have HK := Lib.hid (show Below X.heap.size X x1 from bt hb1 (Below.refl _ X).drew)
            have HK2 := Lib.hid (bt HK.out HBX2.out)
            clear hb1
            refine hK.out _ _ (fun _ => ⟨HX5.out _ HK.out, HCS.out _ HK2.out⟩) (fun hH => ?_)
            replace hH := hH (by decide)
            clear hK K
            try simp only [Act.put, List.setIfInBounds_toArray, List.set_cons_zero, List.set_cons_succ]
            refine takeZ 5 (v := ?_) (gi rfl) (by kernel_rfl) (fun _ _ _ h => h) hH (.inl ⟨rfl, fun w hW => ?_⟩) ?_
            rotate_left
            · (go_simp; try with_reducible rfl)
            try simp only [Act.put, List.setIfInBounds_toArray, List.set_cons_zero, List.set_cons_succ]
            refine takeZ 6 (v := ?_) (gi rfl) (by kernel_rfl) (fun _ _ _ h => h) hH (.inl ⟨rfl, fun w hW => ?_⟩) ?_
            rotate_left
            · (go_simp; try with_reducible rfl)
            try simp only [Act.put, List.setIfInBounds_toArray, List.set_cons_zero, List.set_cons_succ]
            refine takeZ 7 (gi rfl) (by kernel_rfl) (fun _ _ _ h => h) hH (.inr ⟨rfl, rfl⟩) ?_
            try simp only [Act.put, List.setIfInBounds_toArray, List.set_cons_zero, List.set_cons_succ]
            refine takeZ 8 (gi rfl) (by kernel_rfl) (fun _ _ _ h => h) hH (.inr ⟨rfl, rfl⟩) ?_
            try simp only [Act.put, List.setIfInBounds_toArray, List.set_cons_zero, List.set_cons_succ]
            refine takeZ 9 (gi rfl) (by kernel_rfl) (fun _ _ _ h => h) hH (.inr ⟨rfl, rfl⟩) ?_
            try simp only [Act.put, List.setIfInBounds_toArray, List.set_cons_zero, List.set_cons_succ]
            refine takeZ 10 (gi rfl) (by kernel_rfl) (fun _ _ _ h => h) hH (.inr ⟨rfl, rfl⟩) ?_
            try simp only [Act.put, List.setIfInBounds_toArray, List.set_cons_zero, List.set_cons_succ]
            refine takeZ 11 (v := ?_) (gi rfl) (by kernel_rfl) (fun _ _ _ h => h) hH (.inl ⟨rfl, fun w hW => ?_⟩) ?_
            rotate_left
            · (go_simp; try with_reducible rfl)
            try simp only [Act.put, List.setIfInBounds_toArray, List.set_cons_zero, List.set_cons_succ]
            refine takeZ 12 (v := ?_) (gi rfl) (by kernel_rfl) (fun _ _ _ h => h) hH (.inl ⟨rfl, fun w hW => ?_⟩) ?_
            rotate_left
            · (go_simp; try with_reducible rfl)
            try simp only [Act.put, List.setIfInBounds_toArray, List.set_cons_zero, List.set_cons_succ]
            refine takeZ 13 (gi rfl) (by kernel_rfl) (fun _ _ _ h => h) hH (.inr ⟨rfl, rfl⟩) ?_
            try simp only [Act.put, List.setIfInBounds_toArray, List.set_cons_zero, List.set_cons_succ]
            refine takeZ 14 (gi rfl) (by kernel_rfl) (fun _ _ _ h => h) hH (.inr ⟨rfl, rfl⟩) ?_
            try simp only [Act.put, List.setIfInBounds_toArray, List.set_cons_zero, List.set_cons_succ]
            refine takeZ 15 (gi rfl) (by kernel_rfl) (fun _ _ _ h => h) hH (.inr ⟨rfl, rfl⟩) ?_
            try simp only [Act.put, List.setIfInBounds_toArray, List.set_cons_zero, List.set_cons_succ]
            refine takeZ 16 (gi rfl) (by kernel_rfl) (fun _ _ _ h => h) hH (.inr ⟨rfl, rfl⟩) ?_
            try simp only [Act.put, List.setIfInBounds_toArray, List.set_cons_zero, List.set_cons_succ]
            refine takeZ 17 (gi rfl) (by kernel_rfl) (fun _ _ _ h => h) hH (.inr ⟨rfl, rfl⟩) ?_
            try simp only [Act.put, List.setIfInBounds_toArray, List.set_cons_zero, List.set_cons_succ]
            refine takeZ 18 (gi rfl) (by kernel_rfl) (fun _ _ _ h => h) hH (.inr ⟨rfl, rfl⟩) ?_
            try simp only [Act.put, List.setIfInBounds_toArray, List.set_cons_zero, List.set_cons_succ]
            refine takeZ 19 (gi rfl) (by kernel_rfl) (fun _ _ _ h => h) hH (.inr ⟨rfl, rfl⟩) ?_
            try simp only [Act.put, List.setIfInBounds_toArray, List.set_cons_zero, List.set_cons_succ]
            refine takeZ 20 (gi rfl) (by kernel_rfl) (fun _ _ _ h => h) hH (.inr ⟨rfl, rfl⟩) ?_
            try simp only [Act.put, List.setIfInBounds_toArray, List.set_cons_zero, List.set_cons_succ]
            refine yieldZ 21 (v := ?_) (by kernel_rfl) (gi rfl) hH (.inl ⟨rfl, fun w hW => ?_⟩) ?_
            rotate_left
            · (go_simp; try with_reducible rfl)
            try simp only [Act.put, List.setIfInBounds_toArray, List.set_cons_zero, List.set_cons_succ]
            refine doneZ (by kernel_rfl) ?_ _
            clear hH
            go_wp2_with fail
            go_ret
            exact ⟨by rw [F.out]; rfl, bt HK2.out HB.out⟩
          · by_cases h1 : a < id
            · have h1d : decide (id ≤ a) = false := decide_eq_false (by omega)
              obtain ⟨G, hgd⟩ : ∃ G, decide (f < N1) = G := ⟨_, rfl⟩
              cases hsg : (sc == G)
              · have hq : (sc != G) = true := by unfold bne; rw [hsg]; try rfl
                have hq3 : (!(sc == G)) = true := by rw [hsg]; rfl
                have hq2 : (sc ^^ G) = true := by revert hq; cases sc <;> cases G <;> decide
                have F := Lib.hid (show R = false by rw [HST.out, hgd, hsg]; simp)
                clear h1 hsg
                go_wp2_with fail
                refine regionZ 21 (fun w' => (w'.cell? ⟨wr.heap.size, 0, none⟩ = some (.int .i64 id) ∧ w'.cell? ⟨wr.heap.size, 1, none⟩ = some (.slice XA xn xc) ∧ w'.cell? ⟨wr.heap.size, 2, none⟩ = some (.int .i64 p) ∧ w'.cell? ⟨wr.heap.size, 3, none⟩ = some (.int .i64 q) ∧ w'.cell? ⟨wr.heap.size, 4, none⟩ = some (.bool sc)) ∧ w'.cell? ⟨w.heap.size, 0, none⟩ = some (.int .i64 c0) ∧ w'.cell? ⟨w.heap.size, 1, none⟩ = some (.int .i64 c1) ∧ w'.cell? ⟨w.heap.size, 2, none⟩ = some (.int .i64 c2) ∧ w'.cell? ⟨w.heap.size, 3, none⟩ = some (.int .i64 c3) ∧ w'.cell? ⟨w.heap.size, 4, none⟩ = some (.int .i64 c4) ∧ w'.cell? ⟨w.heap.size, 5, none⟩ = some (.int .i64 c5) ∧ w'.cell? ⟨w.heap.size, 6, none⟩ = some (.int .i64 c6) ∧ w'.cell? ⟨w.heap.size, 7, none⟩ = some (.int .i64 c7) ∧ w'.cell? ⟨w.heap.size, 8, none⟩ = some (.int .i64 c8) ∧ w'.cell? ⟨w.heap.size, 9, none⟩ = some (.int .i64 c9) ∧ w'.cell? ⟨w.heap.size, 10, none⟩ = some (.int .i64 c10)) (by kernel_rfl) (⟨HX5.out _ (Below.refl _ X).drew, HCS.out _ HBX2.out.drew⟩) (fun hH => ?_)
                refine takeZ 0 (v := ?_) (gi rfl) (by kernel_rfl) (fun _ _ _ h => h) hH (.inl ⟨rfl, fun w hW => ?_⟩) ?_
                rotate_left
                · (obtain ⟨⟨hX0, hX1, hX2, hX3, hX4⟩, hW0, hW1, hW2, hW3, hW4, hW5, hW6, hW7, hW8, hW9, hW10⟩ := hW; go_simp; try with_reducible rfl)
                try simp only [Act.put, List.setIfInBounds_toArray, List.set_cons_zero, List.set_cons_succ]
                refine takeZ 1 (v := ?_) (gi rfl) (by kernel_rfl) (fun _ _ _ h => h) hH (.inl ⟨rfl, fun w hW => ?_⟩) ?_
                rotate_left
                · (go_simp; try with_reducible rfl)
                try simp only [Act.put, List.setIfInBounds_toArray, List.set_cons_zero, List.set_cons_succ]
                refine takeZ 2 (v := ?_) (gi rfl) (by kernel_rfl) (fun _ _ _ h => h) hH (.inl ⟨rfl, fun w hW => ?_⟩) ?_
                rotate_left
                · (go_simp; try with_reducible rfl)
                try simp only [Act.put, List.setIfInBounds_toArray, List.set_cons_zero, List.set_cons_succ]
                refine takeZ 3 (v := ?_) (gi rfl) (by kernel_rfl) (fun _ _ _ h => h) hH (.inl ⟨rfl, fun w hW => ?_⟩) ?_
                rotate_left
                · (obtain ⟨⟨hX0, hX1, hX2, hX3, hX4⟩, hW0, hW1, hW2, hW3, hW4, hW5, hW6, hW7, hW8, hW9, hW10⟩ := hW; go_simp; try with_reducible rfl)
                try simp only [Act.put, List.setIfInBounds_toArray, List.set_cons_zero, List.set_cons_succ]
                refine oneZ 4 (by kernel_rfl) (gi rfl) (fun K hK => ?_)
                try simp only [Act.put, List.setIfInBounds_toArray, List.set_cons_zero, List.set_cons_succ]
                go_simp
                refine (HRS.out X.drew HBX.out.drew).mono ?_
                rintro e x1 ⟨rfl, hb1⟩
                have HK := Lib.hid (show Below X.heap.size X x1 from bt hb1 (Below.refl _ X).drew)
                have HK2 := Lib.hid (bt HK.out HBX2.out)
                clear hb1
                refine hK.out _ _ (fun _ => ⟨HX5.out _ HK.out, HCS.out _ HK2.out⟩) (fun hH => ?_)
                replace hH := hH (by decide)
                clear hK K
                try simp only [Act.put, List.setIfInBounds_toArray, List.set_cons_zero, List.set_cons_succ]
                refine takeZ 5 (v := ?_) (gi rfl) (by kernel_rfl) (fun _ _ _ h => h) hH (.inl ⟨rfl, fun w hW => ?_⟩) ?_
                rotate_left
                · (go_simp; try with_reducible rfl)
                try simp only [Act.put, List.setIfInBounds_toArray, List.set_cons_zero, List.set_cons_succ]
                refine takeZ 6 (v := ?_) (gi rfl) (by kernel_rfl) (fun _ _ _ h => h) hH (.inl ⟨rfl, fun w hW => ?_⟩) ?_
                rotate_left
                · (go_simp; try with_reducible rfl)
                try simp only [Act.put, List.setIfInBounds_toArray, List.set_cons_zero, List.set_cons_succ]
                refine takeZ 7 (v := ?_) (gi rfl) (by kernel_rfl) (fun _ _ _ h => h) hH (.inl ⟨rfl, fun w hW => ?_⟩) ?_
                rotate_left
                · (go_simp; try with_reducible rfl)
                try simp only [Act.put, List.setIfInBounds_toArray, List.set_cons_zero, List.set_cons_succ]
                refine takeZ 8 (v := ?_) (gi rfl) (by kernel_rfl) (fun _ _ _ h => h) hH (.inl ⟨rfl, fun w hW => ?_⟩) ?_
                rotate_left
                · (obtain ⟨⟨hX0, hX1, hX2, hX3, hX4⟩, hW0, hW1, hW2, hW3, hW4, hW5, hW6, hW7, hW8, hW9, hW10⟩ := hW; go_simp; try with_reducible rfl)
                try simp only [Act.put, List.setIfInBounds_toArray, List.set_cons_zero, List.set_cons_succ]
                refine takeZ 9 (v := ?_) (gi rfl) (by kernel_rfl) (fun _ _ _ h => h) hH (.inl ⟨rfl, fun w hW => ?_⟩) ?_
                rotate_left
                · (go_simp; try with_reducible rfl)
                try simp only [Act.put, List.setIfInBounds_toArray, List.set_cons_zero, List.set_cons_succ]
                refine takeZ 10 (v := ?_) (gi rfl) (by kernel_rfl) (fun _ _ _ h => h) hH (.inl ⟨rfl, fun w hW => ?_⟩) ?_
                rotate_left
                · (go_simp; try with_reducible rfl)
                try simp only [Act.put, List.setIfInBounds_toArray, List.set_cons_zero, List.set_cons_succ]
                refine takeZ 11 (v := ?_) (gi rfl) (by kernel_rfl) (fun _ _ _ h => h) hH (.inl ⟨rfl, fun w hW => ?_⟩) ?_
                rotate_left
                · (go_simp; try with_reducible rfl)
                try simp only [Act.put, List.setIfInBounds_toArray, List.set_cons_zero, List.set_cons_succ]
                refine takeZ 12 (v := ?_) (gi rfl) (by kernel_rfl) (fun _ _ _ h => h) hH (.inl ⟨rfl, fun w hW => ?_⟩) ?_
                rotate_left
                · (go_simp; try with_reducible rfl)
                try simp only [Act.put, List.setIfInBounds_toArray, List.set_cons_zero, List.set_cons_succ]
                refine takeZ 13 (v := ?_) (gi rfl) (by kernel_rfl) (fun _ _ _ h => h) hH (.inl ⟨rfl, fun w hW => ?_⟩) ?_
                rotate_left
                · (go_simp; try with_reducible rfl)
                try simp only [Act.put, List.setIfInBounds_toArray, List.set_cons_zero, List.set_cons_succ]
                refine takeZ 14 (v := ?_) (gi rfl) (by kernel_rfl) (fun _ _ _ h => h) hH (.inl ⟨rfl, fun w hW => ?_⟩) ?_
                rotate_left
                · (obtain ⟨⟨hX0, hX1, hX2, hX3, hX4⟩, hW0, hW1, hW2, hW3, hW4, hW5, hW6, hW7, hW8, hW9, hW10⟩ := hW; go_simp; try with_reducible rfl)
                try simp only [Act.put, List.setIfInBounds_toArray, List.set_cons_zero, List.set_cons_succ]
                refine takeZ 15 (v := ?_) (gi rfl) (by kernel_rfl) (fun _ _ _ h => h) hH (.inl ⟨rfl, fun w hW => ?_⟩) ?_
                rotate_left
                · (go_simp; try with_reducible rfl)
                try simp only [Act.put, List.setIfInBounds_toArray, List.set_cons_zero, List.set_cons_succ]
                refine takeZ 16 (v := ?_) (gi rfl) (by kernel_rfl) (fun _ _ _ h => h) hH (.inl ⟨rfl, fun w hW => ?_⟩) ?_
                rotate_left
                · (go_simp; try with_reducible rfl)
                try simp only [Act.put, List.setIfInBounds_toArray, List.set_cons_zero, List.set_cons_succ]
                refine takeZ 17 (v := ?_) (gi rfl) (by kernel_rfl) (fun _ _ _ h => h) hH (.inl ⟨rfl, fun w hW => ?_⟩) ?_
                rotate_left
                · (obtain ⟨⟨hX0, hX1, hX2, hX3, hX4⟩, hW0, hW1, hW2, hW3, hW4, hW5, hW6, hW7, hW8, hW9, hW10⟩ := hW; go_simp; try with_reducible rfl)
                try simp only [Act.put, List.setIfInBounds_toArray, List.set_cons_zero, List.set_cons_succ]
                refine oneZ 18 (by kernel_rfl) (gi rfl) (fun K hK => ?_)
                try simp only [Act.put, List.setIfInBounds_toArray, List.set_cons_zero, List.set_cons_succ]
                go_simp
                refine (HTN.out x1).mono ?_
                rintro e x2 ⟨rfl, hb2⟩
                have HK3 := Lib.hid (bt hb2 HK.out)
                have HK4 := Lib.hid (bt HK3.out HBX2.out)
                clear hb2
                refine hK.out _ _ (fun _ => ⟨HX5.out _ HK3.out, HCS.out _ HK4.out⟩) (fun hH => ?_)
                replace hH := hH (by decide)
                clear hK K
                try simp only [Act.put, List.setIfInBounds_toArray, List.set_cons_zero, List.set_cons_succ]
                refine takeZ 19 (v := ?_) (gi rfl) (by kernel_rfl) (fun _ _ _ h => h) hH (.inl ⟨rfl, fun w hW => ?_⟩) ?_
                rotate_left
                · (go_simp; try with_reducible rfl)
                try simp only [Act.put, List.setIfInBounds_toArray, List.set_cons_zero, List.set_cons_succ]
                refine takeZ 20 (v := ?_) (gi rfl) (by kernel_rfl) (fun _ _ _ h => h) hH (.inl ⟨rfl, fun w hW => ?_⟩) ?_
                rotate_left
                · (go_simp; try with_reducible rfl)
                try simp only [Act.put, List.setIfInBounds_toArray, List.set_cons_zero, List.set_cons_succ]
                refine yieldZ 21 (v := ?_) (by kernel_rfl) (gi rfl) hH (.inl ⟨rfl, fun w hW => ?_⟩) ?_
                rotate_left
                · (go_simp; try with_reducible rfl)
                try simp only [Act.put, List.setIfInBounds_toArray, List.set_cons_zero, List.set_cons_succ]
                refine doneZ (by kernel_rfl) ?_ _
                clear hH
                go_wp2_with fail
                go_ret
                exact ⟨by rw [F.out]; rfl, bt HK4.out HB.out⟩
              · have hq : (sc != G) = false := by unfold bne; rw [hsg]; try rfl
                have hq3 : (!(sc == G)) = false := by rw [hsg]; rfl
                have hq2 : (sc ^^ G) = false := by revert hq; cases sc <;> cases G <;> decide
                have F := Lib.hid (show R = winB f c0 id N1 (win.drop (k + 1)) last by rw [HST.out, decide_eq_true h1, hgd, hsg]; simp)
                clear h1 hsg
                go_wp2_with fail
                refine regionZ 21 (fun w' => (w'.cell? ⟨wr.heap.size, 0, none⟩ = some (.int .i64 id) ∧ w'.cell? ⟨wr.heap.size, 1, none⟩ = some (.slice XA xn xc) ∧ w'.cell? ⟨wr.heap.size, 2, none⟩ = some (.int .i64 p) ∧ w'.cell? ⟨wr.heap.size, 3, none⟩ = some (.int .i64 q) ∧ w'.cell? ⟨wr.heap.size, 4, none⟩ = some (.bool sc)) ∧ w'.cell? ⟨w.heap.size, 0, none⟩ = some (.int .i64 c0) ∧ w'.cell? ⟨w.heap.size, 1, none⟩ = some (.int .i64 c1) ∧ w'.cell? ⟨w.heap.size, 2, none⟩ = some (.int .i64 c2) ∧ w'.cell? ⟨w.heap.size, 3, none⟩ = some (.int .i64 c3) ∧ w'.cell? ⟨w.heap.size, 4, none⟩ = some (.int .i64 c4) ∧ w'.cell? ⟨w.heap.size, 5, none⟩ = some (.int .i64 c5) ∧ w'.cell? ⟨w.heap.size, 6, none⟩ = some (.int .i64 c6) ∧ w'.cell? ⟨w.heap.size, 7, none⟩ = some (.int .i64 c7) ∧ w'.cell? ⟨w.heap.size, 8, none⟩ = some (.int .i64 c8) ∧ w'.cell? ⟨w.heap.size, 9, none⟩ = some (.int .i64 c9) ∧ w'.cell? ⟨w.heap.size, 10, none⟩ = some (.int .i64 c10)) (by kernel_rfl) (⟨HX5.out _ (Below.refl _ X).drew, HCS.out _ HBX2.out.drew⟩) (fun hH => ?_)
                refine takeZ 0 (v := ?_) (gi rfl) (by kernel_rfl) (fun _ _ _ h => h) hH (.inl ⟨rfl, fun w hW => ?_⟩) ?_
                rotate_left
                · (obtain ⟨⟨hX0, hX1, hX2, hX3, hX4⟩, hW0, hW1, hW2, hW3, hW4, hW5, hW6, hW7, hW8, hW9, hW10⟩ := hW; go_simp; try with_reducible rfl)
                try simp only [Act.put, List.setIfInBounds_toArray, List.set_cons_zero, List.set_cons_succ]
                refine takeZ 1 (v := ?_) (gi rfl) (by kernel_rfl) (fun _ _ _ h => h) hH (.inl ⟨rfl, fun w hW => ?_⟩) ?_
                rotate_left
                · (go_simp; try with_reducible rfl)
                try simp only [Act.put, List.setIfInBounds_toArray, List.set_cons_zero, List.set_cons_succ]
                refine takeZ 2 (v := ?_) (gi rfl) (by kernel_rfl) (fun _ _ _ h => h) hH (.inl ⟨rfl, fun w hW => ?_⟩) ?_
                rotate_left
                · (go_simp; try with_reducible rfl)
                try simp only [Act.put, List.setIfInBounds_toArray, List.set_cons_zero, List.set_cons_succ]
                refine takeZ 3 (v := ?_) (gi rfl) (by kernel_rfl) (fun _ _ _ h => h) hH (.inl ⟨rfl, fun w hW => ?_⟩) ?_
                rotate_left
                · (obtain ⟨⟨hX0, hX1, hX2, hX3, hX4⟩, hW0, hW1, hW2, hW3, hW4, hW5, hW6, hW7, hW8, hW9, hW10⟩ := hW; go_simp; try with_reducible rfl)
                try simp only [Act.put, List.setIfInBounds_toArray, List.set_cons_zero, List.set_cons_succ]
                refine oneZ 4 (by kernel_rfl) (gi rfl) (fun K hK => ?_)
                try simp only [Act.put, List.setIfInBounds_toArray, List.set_cons_zero, List.set_cons_succ]
                go_simp
                refine (HRS.out X.drew HBX.out.drew).mono ?_
                rintro e x1 ⟨rfl, hb1⟩
                have HK := Lib.hid (show Below X.heap.size X x1 from bt hb1 (Below.refl _ X).drew)
                have HK2 := Lib.hid (bt HK.out HBX2.out)
                clear hb1
                refine hK.out _ _ (fun _ => ⟨HX5.out _ HK.out, HCS.out _ HK2.out⟩) (fun hH => ?_)
                replace hH := hH (by decide)
                clear hK K
                try simp only [Act.put, List.setIfInBounds_toArray, List.set_cons_zero, List.set_cons_succ]
                refine takeZ 5 (v := ?_) (gi rfl) (by kernel_rfl) (fun _ _ _ h => h) hH (.inl ⟨rfl, fun w hW => ?_⟩) ?_
                rotate_left
                · (go_simp; try with_reducible rfl)
                try simp only [Act.put, List.setIfInBounds_toArray, List.set_cons_zero, List.set_cons_succ]
                refine takeZ 6 (v := ?_) (gi rfl) (by kernel_rfl) (fun _ _ _ h => h) hH (.inl ⟨rfl, fun w hW => ?_⟩) ?_
                rotate_left
                · (go_simp; try with_reducible rfl)
                try simp only [Act.put, List.setIfInBounds_toArray, List.set_cons_zero, List.set_cons_succ]
                refine takeZ 7 (v := ?_) (gi rfl) (by kernel_rfl) (fun _ _ _ h => h) hH (.inl ⟨rfl, fun w hW => ?_⟩) ?_
                rotate_left
                · (go_simp; try with_reducible rfl)
                try simp only [Act.put, List.setIfInBounds_toArray, List.set_cons_zero, List.set_cons_succ]
                refine takeZ 8 (v := ?_) (gi rfl) (by kernel_rfl) (fun _ _ _ h => h) hH (.inl ⟨rfl, fun w hW => ?_⟩) ?_
                rotate_left
                · (obtain ⟨⟨hX0, hX1, hX2, hX3, hX4⟩, hW0, hW1, hW2, hW3, hW4, hW5, hW6, hW7, hW8, hW9, hW10⟩ := hW; go_simp; try with_reducible rfl)
                try simp only [Act.put, List.setIfInBounds_toArray, List.set_cons_zero, List.set_cons_succ]
                refine takeZ 9 (v := ?_) (gi rfl) (by kernel_rfl) (fun _ _ _ h => h) hH (.inl ⟨rfl, fun w hW => ?_⟩) ?_
                rotate_left
                · (go_simp; try with_reducible rfl)
                try simp only [Act.put, List.setIfInBounds_toArray, List.set_cons_zero, List.set_cons_succ]
                refine takeZ 10 (v := ?_) (gi rfl) (by kernel_rfl) (fun _ _ _ h => h) hH (.inl ⟨rfl, fun w hW => ?_⟩) ?_
                rotate_left
                · (go_simp; try with_reducible rfl)
                try simp only [Act.put, List.setIfInBounds_toArray, List.set_cons_zero, List.set_cons_succ]
                refine takeZ 11 (v := ?_) (gi rfl) (by kernel_rfl) (fun _ _ _ h => h) hH (.inl ⟨rfl, fun w hW => ?_⟩) ?_
                rotate_left
                · (go_simp; try with_reducible rfl)
                try simp only [Act.put, List.setIfInBounds_toArray, List.set_cons_zero, List.set_cons_succ]
                refine takeZ 12 (v := ?_) (gi rfl) (by kernel_rfl) (fun _ _ _ h => h) hH (.inl ⟨rfl, fun w hW => ?_⟩) ?_
                rotate_left
                · (go_simp; try with_reducible rfl)
                try simp only [Act.put, List.setIfInBounds_toArray, List.set_cons_zero, List.set_cons_succ]
                refine takeZ 13 (v := ?_) (gi rfl) (by kernel_rfl) (fun _ _ _ h => h) hH (.inl ⟨rfl, fun w hW => ?_⟩) ?_
                rotate_left
                · (go_simp; try with_reducible rfl)
                try simp only [Act.put, List.setIfInBounds_toArray, List.set_cons_zero, List.set_cons_succ]
                refine takeZ 14 (v := ?_) (gi rfl) (by kernel_rfl) (fun _ _ _ h => h) hH (.inl ⟨rfl, fun w hW => ?_⟩) ?_
                rotate_left
                · (obtain ⟨⟨hX0, hX1, hX2, hX3, hX4⟩, hW0, hW1, hW2, hW3, hW4, hW5, hW6, hW7, hW8, hW9, hW10⟩ := hW; go_simp; try with_reducible rfl)
                try simp only [Act.put, List.setIfInBounds_toArray, List.set_cons_zero, List.set_cons_succ]
                refine takeZ 15 (v := ?_) (gi rfl) (by kernel_rfl) (fun _ _ _ h => h) hH (.inl ⟨rfl, fun w hW => ?_⟩) ?_
                rotate_left
                · (go_simp; try with_reducible rfl)
                try simp only [Act.put, List.setIfInBounds_toArray, List.set_cons_zero, List.set_cons_succ]
                refine takeZ 16 (v := ?_) (gi rfl) (by kernel_rfl) (fun _ _ _ h => h) hH (.inl ⟨rfl, fun w hW => ?_⟩) ?_
                rotate_left
                · (go_simp; try with_reducible rfl)
                try simp only [Act.put, List.setIfInBounds_toArray, List.set_cons_zero, List.set_cons_succ]
                refine takeZ 17 (v := ?_) (gi rfl) (by kernel_rfl) (fun _ _ _ h => h) hH (.inl ⟨rfl, fun w hW => ?_⟩) ?_
                rotate_left
                · (obtain ⟨⟨hX0, hX1, hX2, hX3, hX4⟩, hW0, hW1, hW2, hW3, hW4, hW5, hW6, hW7, hW8, hW9, hW10⟩ := hW; go_simp; try with_reducible rfl)
                try simp only [Act.put, List.setIfInBounds_toArray, List.set_cons_zero, List.set_cons_succ]
                refine oneZ 18 (by kernel_rfl) (gi rfl) (fun K hK => ?_)
                try simp only [Act.put, List.setIfInBounds_toArray, List.set_cons_zero, List.set_cons_succ]
                go_simp
                refine (HTN.out x1).mono ?_
                rintro e x2 ⟨rfl, hb2⟩
                have HK3 := Lib.hid (bt hb2 HK.out)
                have HK4 := Lib.hid (bt HK3.out HBX2.out)
                clear hb2
                refine hK.out _ _ (fun _ => ⟨HX5.out _ HK3.out, HCS.out _ HK4.out⟩) (fun hH => ?_)
                replace hH := hH (by decide)
                clear hK K
                try simp only [Act.put, List.setIfInBounds_toArray, List.set_cons_zero, List.set_cons_succ]
                refine takeZ 19 (v := ?_) (gi rfl) (by kernel_rfl) (fun _ _ _ h => h) hH (.inl ⟨rfl, fun w hW => ?_⟩) ?_
                rotate_left
                · (go_simp; try with_reducible rfl)
                try simp only [Act.put, List.setIfInBounds_toArray, List.set_cons_zero, List.set_cons_succ]
                refine takeZ 20 (v := ?_) (gi rfl) (by kernel_rfl) (fun _ _ _ h => h) hH (.inl ⟨rfl, fun w hW => ?_⟩) ?_
                rotate_left
                · (go_simp; try with_reducible rfl)
                try simp only [Act.put, List.setIfInBounds_toArray, List.set_cons_zero, List.set_cons_succ]
                refine yieldZ 21 (v := ?_) (by kernel_rfl) (gi rfl) hH (.inl ⟨rfl, fun w hW => ?_⟩) ?_
                rotate_left
                · (go_simp; try with_reducible rfl)
                try simp only [Act.put, List.setIfInBounds_toArray, List.set_cons_zero, List.set_cons_succ]
                refine doneZ (by kernel_rfl) ?_ _
                clear hH
                obtain ⟨y0, -⟩ := HX5.out x2 HK3.out
                go_wp2_with fail
                exact ⟨⟨k + 1, id, by rw [HN.out]; omega, by go_num, rfl, by rw [HKN.out]; exact F.out, HK4.out⟩, by simp [intOf]; omega⟩
            · have h1d : decide (id ≤ a) = true := decide_eq_true (by omega)
              have F := Lib.hid (show R = false by rw [HST.out]; rw [decide_eq_false h1]; simp)
              clear h1
              go_wp2_with fail
              refine regionZ 21 (fun w' => (w'.cell? ⟨wr.heap.size, 0, none⟩ = some (.int .i64 id) ∧ w'.cell? ⟨wr.heap.size, 1, none⟩ = some (.slice XA xn xc) ∧ w'.cell? ⟨wr.heap.size, 2, none⟩ = some (.int .i64 p) ∧ w'.cell? ⟨wr.heap.size, 3, none⟩ = some (.int .i64 q) ∧ w'.cell? ⟨wr.heap.size, 4, none⟩ = some (.bool sc)) ∧ w'.cell? ⟨w.heap.size, 0, none⟩ = some (.int .i64 c0) ∧ w'.cell? ⟨w.heap.size, 1, none⟩ = some (.int .i64 c1) ∧ w'.cell? ⟨w.heap.size, 2, none⟩ = some (.int .i64 c2) ∧ w'.cell? ⟨w.heap.size, 3, none⟩ = some (.int .i64 c3) ∧ w'.cell? ⟨w.heap.size, 4, none⟩ = some (.int .i64 c4) ∧ w'.cell? ⟨w.heap.size, 5, none⟩ = some (.int .i64 c5) ∧ w'.cell? ⟨w.heap.size, 6, none⟩ = some (.int .i64 c6) ∧ w'.cell? ⟨w.heap.size, 7, none⟩ = some (.int .i64 c7) ∧ w'.cell? ⟨w.heap.size, 8, none⟩ = some (.int .i64 c8) ∧ w'.cell? ⟨w.heap.size, 9, none⟩ = some (.int .i64 c9) ∧ w'.cell? ⟨w.heap.size, 10, none⟩ = some (.int .i64 c10)) (by kernel_rfl) (⟨HX5.out _ (Below.refl _ X).drew, HCS.out _ HBX2.out.drew⟩) (fun hH => ?_)
              refine takeZ 0 (v := ?_) (gi rfl) (by kernel_rfl) (fun _ _ _ h => h) hH (.inl ⟨rfl, fun w hW => ?_⟩) ?_
              rotate_left
              · (obtain ⟨⟨hX0, hX1, hX2, hX3, hX4⟩, hW0, hW1, hW2, hW3, hW4, hW5, hW6, hW7, hW8, hW9, hW10⟩ := hW; go_simp; try with_reducible rfl)
              try simp only [Act.put, List.setIfInBounds_toArray, List.set_cons_zero, List.set_cons_succ]
              refine takeZ 1 (v := ?_) (gi rfl) (by kernel_rfl) (fun _ _ _ h => h) hH (.inl ⟨rfl, fun w hW => ?_⟩) ?_
              rotate_left
              · (go_simp; try with_reducible rfl)
              try simp only [Act.put, List.setIfInBounds_toArray, List.set_cons_zero, List.set_cons_succ]
              refine takeZ 2 (v := ?_) (gi rfl) (by kernel_rfl) (fun _ _ _ h => h) hH (.inl ⟨rfl, fun w hW => ?_⟩) ?_
              rotate_left
              · (go_simp; try with_reducible rfl)
              try simp only [Act.put, List.setIfInBounds_toArray, List.set_cons_zero, List.set_cons_succ]
              refine takeZ 3 (v := ?_) (gi rfl) (by kernel_rfl) (fun _ _ _ h => h) hH (.inl ⟨rfl, fun w hW => ?_⟩) ?_
              rotate_left
              · (obtain ⟨⟨hX0, hX1, hX2, hX3, hX4⟩, hW0, hW1, hW2, hW3, hW4, hW5, hW6, hW7, hW8, hW9, hW10⟩ := hW; go_simp; try with_reducible rfl)
              try simp only [Act.put, List.setIfInBounds_toArray, List.set_cons_zero, List.set_cons_succ]
              refine oneZ 4 (by kernel_rfl) (gi rfl) (fun K hK => ?_)
              try simp only [Act.put, List.setIfInBounds_toArray, List.set_cons_zero, List.set_cons_succ]
              go_simp
              refine (HRS.out X.drew HBX.out.drew).mono ?_
              rintro e x1 ⟨rfl, hb1⟩
              have HK := Lib.hid (show Below X.heap.size X x1 from bt hb1 (Below.refl _ X).drew)
              have HK2 := Lib.hid (bt HK.out HBX2.out)
              clear hb1
              refine hK.out _ _ (fun _ => ⟨HX5.out _ HK.out, HCS.out _ HK2.out⟩) (fun hH => ?_)
              replace hH := hH (by decide)
              clear hK K
              try simp only [Act.put, List.setIfInBounds_toArray, List.set_cons_zero, List.set_cons_succ]
              refine takeZ 5 (v := ?_) (gi rfl) (by kernel_rfl) (fun _ _ _ h => h) hH (.inl ⟨rfl, fun w hW => ?_⟩) ?_
              rotate_left
              · (go_simp; try with_reducible rfl)
              try simp only [Act.put, List.setIfInBounds_toArray, List.set_cons_zero, List.set_cons_succ]
              refine takeZ 6 (v := ?_) (gi rfl) (by kernel_rfl) (fun _ _ _ h => h) hH (.inl ⟨rfl, fun w hW => ?_⟩) ?_
              rotate_left
              · (go_simp; try with_reducible rfl)
              try simp only [Act.put, List.setIfInBounds_toArray, List.set_cons_zero, List.set_cons_succ]
              refine takeZ 7 (v := ?_) (gi rfl) (by kernel_rfl) (fun _ _ _ h => h) hH (.inl ⟨rfl, fun w hW => ?_⟩) ?_
              rotate_left
              · (go_simp; try with_reducible rfl)
              try simp only [Act.put, List.setIfInBounds_toArray, List.set_cons_zero, List.set_cons_succ]
              refine takeZ 8 (v := ?_) (gi rfl) (by kernel_rfl) (fun _ _ _ h => h) hH (.inl ⟨rfl, fun w hW => ?_⟩) ?_
              rotate_left
              · (obtain ⟨⟨hX0, hX1, hX2, hX3, hX4⟩, hW0, hW1, hW2, hW3, hW4, hW5, hW6, hW7, hW8, hW9, hW10⟩ := hW; go_simp; try with_reducible rfl)
              try simp only [Act.put, List.setIfInBounds_toArray, List.set_cons_zero, List.set_cons_succ]
              refine takeZ 9 (v := ?_) (gi rfl) (by kernel_rfl) (fun _ _ _ h => h) hH (.inl ⟨rfl, fun w hW => ?_⟩) ?_
              rotate_left
              · (go_simp; try with_reducible rfl)
              try simp only [Act.put, List.setIfInBounds_toArray, List.set_cons_zero, List.set_cons_succ]
              refine takeZ 10 (v := ?_) (gi rfl) (by kernel_rfl) (fun _ _ _ h => h) hH (.inl ⟨rfl, fun w hW => ?_⟩) ?_
              rotate_left
              · (go_simp; try with_reducible rfl)
              try simp only [Act.put, List.setIfInBounds_toArray, List.set_cons_zero, List.set_cons_succ]
              refine takeZ 11 (v := ?_) (gi rfl) (by kernel_rfl) (fun _ _ _ h => h) hH (.inl ⟨rfl, fun w hW => ?_⟩) ?_
              rotate_left
              · (go_simp; try with_reducible rfl)
              try simp only [Act.put, List.setIfInBounds_toArray, List.set_cons_zero, List.set_cons_succ]
              refine takeZ 12 (v := ?_) (gi rfl) (by kernel_rfl) (fun _ _ _ h => h) hH (.inl ⟨rfl, fun w hW => ?_⟩) ?_
              rotate_left
              · (go_simp; try with_reducible rfl)
              try simp only [Act.put, List.setIfInBounds_toArray, List.set_cons_zero, List.set_cons_succ]
              refine takeZ 13 (gi rfl) (by kernel_rfl) (fun _ _ _ h => h) hH (.inr ⟨rfl, rfl⟩) ?_
              try simp only [Act.put, List.setIfInBounds_toArray, List.set_cons_zero, List.set_cons_succ]
              refine takeZ 14 (gi rfl) (by kernel_rfl) (fun _ _ _ h => h) hH (.inr ⟨rfl, rfl⟩) ?_
              try simp only [Act.put, List.setIfInBounds_toArray, List.set_cons_zero, List.set_cons_succ]
              refine takeZ 15 (gi rfl) (by kernel_rfl) (fun _ _ _ h => h) hH (.inr ⟨rfl, rfl⟩) ?_
              try simp only [Act.put, List.setIfInBounds_toArray, List.set_cons_zero, List.set_cons_succ]
              refine takeZ 16 (gi rfl) (by kernel_rfl) (fun _ _ _ h => h) hH (.inr ⟨rfl, rfl⟩) ?_
              try simp only [Act.put, List.setIfInBounds_toArray, List.set_cons_zero, List.set_cons_succ]
              refine takeZ 17 (gi rfl) (by kernel_rfl) (fun _ _ _ h => h) hH (.inr ⟨rfl, rfl⟩) ?_
              try simp only [Act.put, List.setIfInBounds_toArray, List.set_cons_zero, List.set_cons_succ]
              refine takeZ 18 (gi rfl) (by kernel_rfl) (fun _ _ _ h => h) hH (.inr ⟨rfl, rfl⟩) ?_
              try simp only [Act.put, List.setIfInBounds_toArray, List.set_cons_zero, List.set_cons_succ]
              refine takeZ 19 (gi rfl) (by kernel_rfl) (fun _ _ _ h => h) hH (.inr ⟨rfl, rfl⟩) ?_
              try simp only [Act.put, List.setIfInBounds_toArray, List.set_cons_zero, List.set_cons_succ]
              refine takeZ 20 (gi rfl) (by kernel_rfl) (fun _ _ _ h => h) hH (.inr ⟨rfl, rfl⟩) ?_
              try simp only [Act.put, List.setIfInBounds_toArray, List.set_cons_zero, List.set_cons_succ]
              refine yieldZ 21 (v := ?_) (by kernel_rfl) (gi rfl) hH (.inl ⟨rfl, fun w hW => ?_⟩) ?_
              rotate_left
              · (go_simp; try with_reducible rfl)
              try simp only [Act.put, List.setIfInBounds_toArray, List.set_cons_zero, List.set_cons_succ]
              refine doneZ (by kernel_rfl) ?_ _
              clear hH
              go_wp2_with fail
              go_ret
              exact ⟨by rw [F.out]; rfl, bt HK2.out HB.out⟩
        · have hkn : k = n := by omega
          have F := Lib.hid (show R = decide (last = a) by rw [HRR.out, List.drop_eq_nil_of_le (by rw [HN.out]; omega), winB])
          clear hbr
          by_cases hla : last = a
          · have F2 := Lib.hid (F.out.trans (decide_eq_true hla))
            have hlb2 : (last == a) = true := by simpa using hla
            clear hla
            go_wp2_with fail
            go_ret
            exact ⟨by rw [F2.out]; rfl, bt HBR.out HB.out⟩
          · have F2 := Lib.hid (F.out.trans (decide_eq_false hla))
            have hlb2 : (last == a) = false := by simpa using hla
            clear hla
            go_wp2_with fail
            go_ret
            exact ⟨by rw [F2.out]; rfl, bt HBR.out HB.out⟩
    · have hA0 : ((n : Int) != count) = true := by simpa using hA
      have hA1 : ((n : Int) != c1) = false := by simpa using (by omega : (n : Int) = c1)
      have hB1 : decide (count < (n : Int)) = false := decide_eq_false (by omega)
      have hB2 : decide (c1 < (n : Int)) = false := decide_eq_false (by omega)
      clear hlen hA hM
      go_enter Tryz.func43, Tryz.ntmps43
      go_wp2_with fail
      go_loopw [3, 4] (fun l i wr => WR2 f c0 last R win M W l i wr) (fun _ i _ => n - (intOf i).toNat)
      case atStart => exact HSTART.out
      case round =>
        obtain ⟨k, a, hk, rfl, rfl, hR, hbr⟩ := hrel
        rw [HN.out] at hk
        have HBR := Lib.hid hbr
        have HRR := Lib.hid hR
        clear hR d11 d12 d14 d1
        obtain ⟨e11, e12, e14⟩ := HC2.out wr hbr
        by_cases hlt : k < n
        · obtain ⟨x, hx⟩ : ∃ x, win[k]? = some x := ⟨_, List.getElem?_eq_getElem (by rw [HN.out]; exact hlt)⟩
          obtain ⟨ad, xv, rfl, hbk, hcs, hxs⟩ := (HS.out.up (bt hbr HB.out)).get hx
          have HST := Lib.hid (HRR.out.trans (win_step hx))
          have hxi := HI.out x (List.mem_of_getElem? hx)
          have HRS := Lib.hid (fun W' (hw : Below wr.heap.size wr W') => RRightSeen_any x xv c0 0 W' (hxs.up hw) hxi)
          obtain ⟨XA, xc, hxf, hxc1, hxc2, _, _⟩ := hxs
          unfold maxLen at hxc2
          obtain ⟨id, xs, p, q, sc⟩ := x
          have g0 : wr.cell? (ad.add (k * 5)) = some (.int .i64 id) := hcs 0 _ rfl
          have gf : ∀ j u, (snC (xv, ⟨id, xs, p, q, sc⟩))[j]? = some u → j ≠ 0 → wr.cell? ⟨(ad.add (k * 5)).block, (ad.add (k * 5)).off + j, none⟩ = some u := fun j u hu hj => by rw [add_off _ _ _ hj]; exact hcs j u hu
          have g1 := gf 1 _ rfl (by decide)
          have g2 := gf 2 _ rfl (by decide)
          have g3 := gf 3 _ rfl (by decide)
          have g4 := gf 4 _ rfl (by decide)
          unfold snC at HRS
          dsimp only at g1 g2 g3 g4 HST HRS hxf hxc1
          generalize seenB c0 ⟨id, xs, p, q, sc⟩ = SB at *
          obtain ⟨xn, hxn⟩ : ∃ xn, xs.length = xn := ⟨_, rfl⟩
          rw [hxn] at hxf hxc1
          subst hxf
          obtain ⟨N1, hN1⟩ : ∃ N1, M + 1 + (k : Int) = N1 := ⟨_, rfl⟩
          have HK1 := Lib.hid (show M + (k : Int) + 1 = N1 by omega)
          have HKN := Lib.hid (show M + ((k + 1 : Nat) : Int) = N1 by omega)
          rw [HK1.out] at HST
          have hM2 : count - (n : Int) = M := HMM.out
          have hwN : IntKind.i64.wrap (M + 1 + (k : Int)) = N1 := by rw [hN1]; exact IntWalk.i64_in _ (by omega)
          have hwN1 : IntKind.i64.wrap (M + 1) = M + 1 := IntWalk.i64_in _ (by omega)
          have hwN2 : IntKind.i64.wrap M = M := IntWalk.i64_in _ (by omega)
          have hN1b : 0 ≤ N1 ∧ N1 ≤ 1099511628000 := by omega
          have hzs : w.heap.size < wr.heap.size := World.block_lt_of_cell? _ _ e11
          obtain ⟨X, eX⟩ : ∃ X, wr.alloc (.cells #[.int .i64 id, .slice XA xn xc, .int .i64 p, .int .i64 q, .bool sc] 59) = X := ⟨_, rfl⟩
          have HBX := Lib.hid (show Below wr.heap.size wr X by rw [← eX]; exact below_a1 _ _)
          have HBX2 := Lib.hid (show Below W.heap.size W X from bt HBX.out HBR.out)
          have HX5 := Lib.hid (show ∀ W' : World, Below X.heap.size X W' → (W'.cell? ⟨wr.heap.size, 0, none⟩ = some (.int .i64 id) ∧ W'.cell? ⟨wr.heap.size, 1, none⟩ = some (.slice XA xn xc) ∧ W'.cell? ⟨wr.heap.size, 2, none⟩ = some (.int .i64 p) ∧ W'.cell? ⟨wr.heap.size, 3, none⟩ = some (.int .i64 q) ∧ W'.cell? ⟨wr.heap.size, 4, none⟩ = some (.bool sc)) by
            intro W' hb
            subst eX
            refine ⟨keepA hb ?_, keepA hb ?_, keepA hb ?_, keepA hb ?_, keepA hb ?_⟩ <;> go_simp)
          obtain ⟨r11, -, r14⟩ := HC2.out X HBX2.out
          clear gf hcs hx hxi hxn hbr hbk hN1 e12
          cases SB
          · have F := Lib.hid (show R = false by rw [HST.out]; simp)
            go_wp2_with fail
            refine regionZ 21 (fun w' => (w'.cell? ⟨wr.heap.size, 0, none⟩ = some (.int .i64 id) ∧ w'.cell? ⟨wr.heap.size, 1, none⟩ = some (.slice XA xn xc) ∧ w'.cell? ⟨wr.heap.size, 2, none⟩ = some (.int .i64 p) ∧ w'.cell? ⟨wr.heap.size, 3, none⟩ = some (.int .i64 q) ∧ w'.cell? ⟨wr.heap.size, 4, none⟩ = some (.bool sc)) ∧ w'.cell? ⟨w.heap.size, 0, none⟩ = some (.int .i64 c0) ∧ w'.cell? ⟨w.heap.size, 1, none⟩ = some (.int .i64 c1) ∧ w'.cell? ⟨w.heap.size, 2, none⟩ = some (.int .i64 c2) ∧ w'.cell? ⟨w.heap.size, 3, none⟩ = some (.int .i64 c3) ∧ w'.cell? ⟨w.heap.size, 4, none⟩ = some (.int .i64 c4) ∧ w'.cell? ⟨w.heap.size, 5, none⟩ = some (.int .i64 c5) ∧ w'.cell? ⟨w.heap.size, 6, none⟩ = some (.int .i64 c6) ∧ w'.cell? ⟨w.heap.size, 7, none⟩ = some (.int .i64 c7) ∧ w'.cell? ⟨w.heap.size, 8, none⟩ = some (.int .i64 c8) ∧ w'.cell? ⟨w.heap.size, 9, none⟩ = some (.int .i64 c9) ∧ w'.cell? ⟨w.heap.size, 10, none⟩ = some (.int .i64 c10)) (by kernel_rfl) (⟨HX5.out _ (Below.refl _ X).drew, HCS.out _ HBX2.out.drew⟩) (fun hH => ?_)
            refine takeZ 0 (v := ?_) (gi rfl) (by kernel_rfl) (fun _ _ _ h => h) hH (.inl ⟨rfl, fun w hW => ?_⟩) ?_
            rotate_left
            · (obtain ⟨⟨hX0, hX1, hX2, hX3, hX4⟩, hW0, hW1, hW2, hW3, hW4, hW5, hW6, hW7, hW8, hW9, hW10⟩ := hW; go_simp; try with_reducible rfl)
            try simp only [Act.put, List.setIfInBounds_toArray, List.set_cons_zero, List.set_cons_succ]
            refine takeZ 1 (v := ?_) (gi rfl) (by kernel_rfl) (fun _ _ _ h => h) hH (.inl ⟨rfl, fun w hW => ?_⟩) ?_
            rotate_left
            · (go_simp; try with_reducible rfl)
            try simp only [Act.put, List.setIfInBounds_toArray, List.set_cons_zero, List.set_cons_succ]
            refine takeZ 2 (v := ?_) (gi rfl) (by kernel_rfl) (fun _ _ _ h => h) hH (.inl ⟨rfl, fun w hW => ?_⟩) ?_
            rotate_left
            · (go_simp; try with_reducible rfl)
            try simp only [Act.put, List.setIfInBounds_toArray, List.set_cons_zero, List.set_cons_succ]
            refine takeZ 3 (v := ?_) (gi rfl) (by kernel_rfl) (fun _ _ _ h => h) hH (.inl ⟨rfl, fun w hW => ?_⟩) ?_
            rotate_left
            · (obtain ⟨⟨hX0, hX1, hX2, hX3, hX4⟩, hW0, hW1, hW2, hW3, hW4, hW5, hW6, hW7, hW8, hW9, hW10⟩ := hW; go_simp; try with_reducible rfl)
            try simp only [Act.put, List.setIfInBounds_toArray, List.set_cons_zero, List.set_cons_succ]
            refine oneZ 4 (by kernel_rfl) (gi rfl) (fun K hK => ?_)
            try simp only [Act.put, List.setIfInBounds_toArray, List.set_cons_zero, List.set_cons_succ]
            go_simp
            refine (HRS.out X.drew HBX.out.drew).mono ?_
            rintro e x1 ⟨rfl, hb1⟩
            have HK := Lib.hid (show Below X.heap.size X x1 from bt hb1 (Below.refl _ X).drew)
            have HK2 := Lib.hid (bt HK.out HBX2.out)
            clear hb1
            refine hK.out _ _ (fun _ => ⟨HX5.out _ HK.out, HCS.out _ HK2.out⟩) (fun hH => ?_)
            replace hH := hH (by decide)
            clear hK K
            try simp only [Act.put, List.setIfInBounds_toArray, List.set_cons_zero, List.set_cons_succ]
            refine takeZ 5 (v := ?_) (gi rfl) (by kernel_rfl) (fun _ _ _ h => h) hH (.inl ⟨rfl, fun w hW => ?_⟩) ?_
            rotate_left
            · (go_simp; try with_reducible rfl)
            try simp only [Act.put, List.setIfInBounds_toArray, List.set_cons_zero, List.set_cons_succ]
            refine takeZ 6 (v := ?_) (gi rfl) (by kernel_rfl) (fun _ _ _ h => h) hH (.inl ⟨rfl, fun w hW => ?_⟩) ?_
            rotate_left
            · (go_simp; try with_reducible rfl)
            try simp only [Act.put, List.setIfInBounds_toArray, List.set_cons_zero, List.set_cons_succ]
            refine takeZ 7 (gi rfl) (by kernel_rfl) (fun _ _ _ h => h) hH (.inr ⟨rfl, rfl⟩) ?_
            try simp only [Act.put, List.setIfInBounds_toArray, List.set_cons_zero, List.set_cons_succ]
            refine takeZ 8 (gi rfl) (by kernel_rfl) (fun _ _ _ h => h) hH (.inr ⟨rfl, rfl⟩) ?_
            try simp only [Act.put, List.setIfInBounds_toArray, List.set_cons_zero, List.set_cons_succ]
            refine takeZ 9 (gi rfl) (by kernel_rfl) (fun _ _ _ h => h) hH (.inr ⟨rfl, rfl⟩) ?_
            try simp only [Act.put, List.setIfInBounds_toArray, List.set_cons_zero, List.set_cons_succ]
            refine takeZ 10 (gi rfl) (by kernel_rfl) (fun _ _ _ h => h) hH (.inr ⟨rfl, rfl⟩) ?_
            try simp only [Act.put, List.setIfInBounds_toArray, List.set_cons_zero, List.set_cons_succ]
            refine takeZ 11 (v := ?_) (gi rfl) (by kernel_rfl) (fun _ _ _ h => h) hH (.inl ⟨rfl, fun w hW => ?_⟩) ?_
            rotate_left
            · (go_simp; try with_reducible rfl)
            try simp only [Act.put, List.setIfInBounds_toArray, List.set_cons_zero, List.set_cons_succ]
            refine takeZ 12 (v := ?_) (gi rfl) (by kernel_rfl) (fun _ _ _ h => h) hH (.inl ⟨rfl, fun w hW => ?_⟩) ?_
            rotate_left
            · (go_simp; try with_reducible rfl)
            try simp only [Act.put, List.setIfInBounds_toArray, List.set_cons_zero, List.set_cons_succ]
            refine takeZ 13 (gi rfl) (by kernel_rfl) (fun _ _ _ h => h) hH (.inr ⟨rfl, rfl⟩) ?_
            try simp only [Act.put, List.setIfInBounds_toArray, List.set_cons_zero, List.set_cons_succ]
            refine takeZ 14 (gi rfl) (by kernel_rfl) (fun _ _ _ h => h) hH (.inr ⟨rfl, rfl⟩) ?_
            try simp only [Act.put, List.setIfInBounds_toArray, List.set_cons_zero, List.set_cons_succ]
            refine takeZ 15 (gi rfl) (by kernel_rfl) (fun _ _ _ h => h) hH (.inr ⟨rfl, rfl⟩) ?_
            try simp only [Act.put, List.setIfInBounds_toArray, List.set_cons_zero, List.set_cons_succ]
            refine takeZ 16 (gi rfl) (by kernel_rfl) (fun _ _ _ h => h) hH (.inr ⟨rfl, rfl⟩) ?_
            try simp only [Act.put, List.setIfInBounds_toArray, List.set_cons_zero, List.set_cons_succ]
            refine takeZ 17 (gi rfl) (by kernel_rfl) (fun _ _ _ h => h) hH (.inr ⟨rfl, rfl⟩) ?_
            try simp only [Act.put, List.setIfInBounds_toArray, List.set_cons_zero, List.set_cons_succ]
            refine takeZ 18 (gi rfl) (by kernel_rfl) (fun _ _ _ h => h) hH (.inr ⟨rfl, rfl⟩) ?_
            try simp only [Act.put, List.setIfInBounds_toArray, List.set_cons_zero, List.set_cons_succ]
            refine takeZ 19 (gi rfl) (by kernel_rfl) (fun _ _ _ h => h) hH (.inr ⟨rfl, rfl⟩) ?_
            try simp only [Act.put, List.setIfInBounds_toArray, List.set_cons_zero, List.set_cons_succ]
            refine takeZ 20 (gi rfl) (by kernel_rfl) (fun _ _ _ h => h) hH (.inr ⟨rfl, rfl⟩) ?_
            try simp only [Act.put, List.setIfInBounds_toArray, List.set_cons_zero, List.set_cons_succ]
            refine yieldZ 21 (v := ?_) (by kernel_rfl) (gi rfl) hH (.inl ⟨rfl, fun w hW => ?_⟩) ?_
            rotate_left
            · (go_simp; try with_reducible rfl)
            try simp only [Act.put, List.setIfInBounds_toArray, List.set_cons_zero, List.set_cons_succ]
            refine doneZ (by kernel_rfl) ?_ _
            clear hH
            go_wp2_with fail
            go_ret
            exact ⟨by rw [F.out]; rfl, bt HK2.out HB.out⟩
          · by_cases h1 : a < id
            · have h1d : decide (id ≤ a) = false := decide_eq_false (by omega)
              obtain ⟨G, hgd⟩ : ∃ G, decide (f < N1) = G := ⟨_, rfl⟩
              cases hsg : (sc == G)
              · have hq : (sc != G) = true := by unfold bne; rw [hsg]; try rfl
                have hq3 : (!(sc == G)) = true := by rw [hsg]; rfl
                have hq2 : (sc ^^ G) = true := by revert hq; cases sc <;> cases G <;> decide
                have F := Lib.hid (show R = false by rw [HST.out, hgd, hsg]; simp)
                clear h1 hsg
                go_wp2_with fail
                refine regionZ 21 (fun w' => (w'.cell? ⟨wr.heap.size, 0, none⟩ = some (.int .i64 id) ∧ w'.cell? ⟨wr.heap.size, 1, none⟩ = some (.slice XA xn xc) ∧ w'.cell? ⟨wr.heap.size, 2, none⟩ = some (.int .i64 p) ∧ w'.cell? ⟨wr.heap.size, 3, none⟩ = some (.int .i64 q) ∧ w'.cell? ⟨wr.heap.size, 4, none⟩ = some (.bool sc)) ∧ w'.cell? ⟨w.heap.size, 0, none⟩ = some (.int .i64 c0) ∧ w'.cell? ⟨w.heap.size, 1, none⟩ = some (.int .i64 c1) ∧ w'.cell? ⟨w.heap.size, 2, none⟩ = some (.int .i64 c2) ∧ w'.cell? ⟨w.heap.size, 3, none⟩ = some (.int .i64 c3) ∧ w'.cell? ⟨w.heap.size, 4, none⟩ = some (.int .i64 c4) ∧ w'.cell? ⟨w.heap.size, 5, none⟩ = some (.int .i64 c5) ∧ w'.cell? ⟨w.heap.size, 6, none⟩ = some (.int .i64 c6) ∧ w'.cell? ⟨w.heap.size, 7, none⟩ = some (.int .i64 c7) ∧ w'.cell? ⟨w.heap.size, 8, none⟩ = some (.int .i64 c8) ∧ w'.cell? ⟨w.heap.size, 9, none⟩ = some (.int .i64 c9) ∧ w'.cell? ⟨w.heap.size, 10, none⟩ = some (.int .i64 c10)) (by kernel_rfl) (⟨HX5.out _ (Below.refl _ X).drew, HCS.out _ HBX2.out.drew⟩) (fun hH => ?_)
                refine takeZ 0 (v := ?_) (gi rfl) (by kernel_rfl) (fun _ _ _ h => h) hH (.inl ⟨rfl, fun w hW => ?_⟩) ?_
                rotate_left
                · (obtain ⟨⟨hX0, hX1, hX2, hX3, hX4⟩, hW0, hW1, hW2, hW3, hW4, hW5, hW6, hW7, hW8, hW9, hW10⟩ := hW; go_simp; try with_reducible rfl)
                try simp only [Act.put, List.setIfInBounds_toArray, List.set_cons_zero, List.set_cons_succ]
                refine takeZ 1 (v := ?_) (gi rfl) (by kernel_rfl) (fun _ _ _ h => h) hH (.inl ⟨rfl, fun w hW => ?_⟩) ?_
                rotate_left
                · (go_simp; try with_reducible rfl)
                try simp only [Act.put, List.setIfInBounds_toArray, List.set_cons_zero, List.set_cons_succ]
                refine takeZ 2 (v := ?_) (gi rfl) (by kernel_rfl) (fun _ _ _ h => h) hH (.inl ⟨rfl, fun w hW => ?_⟩) ?_
                rotate_left
                · (go_simp; try with_reducible rfl)
                try simp only [Act.put, List.setIfInBounds_toArray, List.set_cons_zero, List.set_cons_succ]
                refine takeZ 3 (v := ?_) (gi rfl) (by kernel_rfl) (fun _ _ _ h => h) hH (.inl ⟨rfl, fun w hW => ?_⟩) ?_
                rotate_left
                · (obtain ⟨⟨hX0, hX1, hX2, hX3, hX4⟩, hW0, hW1, hW2, hW3, hW4, hW5, hW6, hW7, hW8, hW9, hW10⟩ := hW; go_simp; try with_reducible rfl)
                try simp only [Act.put, List.setIfInBounds_toArray, List.set_cons_zero, List.set_cons_succ]
                refine oneZ 4 (by kernel_rfl) (gi rfl) (fun K hK => ?_)
                try simp only [Act.put, List.setIfInBounds_toArray, List.set_cons_zero, List.set_cons_succ]
                go_simp
                refine (HRS.out X.drew HBX.out.drew).mono ?_
                rintro e x1 ⟨rfl, hb1⟩
                have HK := Lib.hid (show Below X.heap.size X x1 from bt hb1 (Below.refl _ X).drew)
                have HK2 := Lib.hid (bt HK.out HBX2.out)
                clear hb1
                refine hK.out _ _ (fun _ => ⟨HX5.out _ HK.out, HCS.out _ HK2.out⟩) (fun hH => ?_)
                replace hH := hH (by decide)
                clear hK K
                try simp only [Act.put, List.setIfInBounds_toArray, List.set_cons_zero, List.set_cons_succ]
                refine takeZ 5 (v := ?_) (gi rfl) (by kernel_rfl) (fun _ _ _ h => h) hH (.inl ⟨rfl, fun w hW => ?_⟩) ?_
                rotate_left
                · (go_simp; try with_reducible rfl)
                try simp only [Act.put, List.setIfInBounds_toArray, List.set_cons_zero, List.set_cons_succ]
                refine takeZ 6 (v := ?_) (gi rfl) (by kernel_rfl) (fun _ _ _ h => h) hH (.inl ⟨rfl, fun w hW => ?_⟩) ?_
                rotate_left
                · (go_simp; try with_reducible rfl)
                try simp only [Act.put, List.setIfInBounds_toArray, List.set_cons_zero, List.set_cons_succ]
                refine takeZ 7 (v := ?_) (gi rfl) (by kernel_rfl) (fun _ _ _ h => h) hH (.inl ⟨rfl, fun w hW => ?_⟩) ?_
                rotate_left
                · (go_simp; try with_reducible rfl)
                try simp only [Act.put, List.setIfInBounds_toArray, List.set_cons_zero, List.set_cons_succ]
                refine takeZ 8 (v := ?_) (gi rfl) (by kernel_rfl) (fun _ _ _ h => h) hH (.inl ⟨rfl, fun w hW => ?_⟩) ?_
                rotate_left
                · (obtain ⟨⟨hX0, hX1, hX2, hX3, hX4⟩, hW0, hW1, hW2, hW3, hW4, hW5, hW6, hW7, hW8, hW9, hW10⟩ := hW; go_simp; try with_reducible rfl)
                try simp only [Act.put, List.setIfInBounds_toArray, List.set_cons_zero, List.set_cons_succ]
                refine takeZ 9 (v := ?_) (gi rfl) (by kernel_rfl) (fun _ _ _ h => h) hH (.inl ⟨rfl, fun w hW => ?_⟩) ?_
                rotate_left
                · (go_simp; try with_reducible rfl)
                try simp only [Act.put, List.setIfInBounds_toArray, List.set_cons_zero, List.set_cons_succ]
                refine takeZ 10 (v := ?_) (gi rfl) (by kernel_rfl) (fun _ _ _ h => h) hH (.inl ⟨rfl, fun w hW => ?_⟩) ?_
                rotate_left
                · (go_simp; try with_reducible rfl)
                try simp only [Act.put, List.setIfInBounds_toArray, List.set_cons_zero, List.set_cons_succ]
                refine takeZ 11 (v := ?_) (gi rfl) (by kernel_rfl) (fun _ _ _ h => h) hH (.inl ⟨rfl, fun w hW => ?_⟩) ?_
                rotate_left
                · (go_simp; try with_reducible rfl)
                try simp only [Act.put, List.setIfInBounds_toArray, List.set_cons_zero, List.set_cons_succ]
                refine takeZ 12 (v := ?_) (gi rfl) (by kernel_rfl) (fun _ _ _ h => h) hH (.inl ⟨rfl, fun w hW => ?_⟩) ?_
                rotate_left
                · (go_simp; try with_reducible rfl)
                try simp only [Act.put, List.setIfInBounds_toArray, List.set_cons_zero, List.set_cons_succ]
                refine takeZ 13 (v := ?_) (gi rfl) (by kernel_rfl) (fun _ _ _ h => h) hH (.inl ⟨rfl, fun w hW => ?_⟩) ?_
                rotate_left
                · (go_simp; try with_reducible rfl)
                try simp only [Act.put, List.setIfInBounds_toArray, List.set_cons_zero, List.set_cons_succ]
                refine takeZ 14 (v := ?_) (gi rfl) (by kernel_rfl) (fun _ _ _ h => h) hH (.inl ⟨rfl, fun w hW => ?_⟩) ?_
                rotate_left
                · (obtain ⟨⟨hX0, hX1, hX2, hX3, hX4⟩, hW0, hW1, hW2, hW3, hW4, hW5, hW6, hW7, hW8, hW9, hW10⟩ := hW; go_simp; try with_reducible rfl)
                try simp only [Act.put, List.setIfInBounds_toArray, List.set_cons_zero, List.set_cons_succ]
                refine takeZ 15 (v := ?_) (gi rfl) (by kernel_rfl) (fun _ _ _ h => h) hH (.inl ⟨rfl, fun w hW => ?_⟩) ?_
                rotate_left
                · (go_simp; try with_reducible rfl)
                try simp only [Act.put, List.setIfInBounds_toArray, List.set_cons_zero, List.set_cons_succ]
                refine takeZ 16 (v := ?_) (gi rfl) (by kernel_rfl) (fun _ _ _ h => h) hH (.inl ⟨rfl, fun w hW => ?_⟩) ?_
                rotate_left
                · (go_simp; try with_reducible rfl)
                try simp only [Act.put, List.setIfInBounds_toArray, List.set_cons_zero, List.set_cons_succ]
                refine takeZ 17 (v := ?_) (gi rfl) (by kernel_rfl) (fun _ _ _ h => h) hH (.inl ⟨rfl, fun w hW => ?_⟩) ?_
                rotate_left
                · (obtain ⟨⟨hX0, hX1, hX2, hX3, hX4⟩, hW0, hW1, hW2, hW3, hW4, hW5, hW6, hW7, hW8, hW9, hW10⟩ := hW; go_simp; try with_reducible rfl)
                try simp only [Act.put, List.setIfInBounds_toArray, List.set_cons_zero, List.set_cons_succ]
                refine oneZ 18 (by kernel_rfl) (gi rfl) (fun K hK => ?_)
                try simp only [Act.put, List.setIfInBounds_toArray, List.set_cons_zero, List.set_cons_succ]
                go_simp
                refine (HTN.out x1).mono ?_
                rintro e x2 ⟨rfl, hb2⟩
                have HK3 := Lib.hid (bt hb2 HK.out)
                have HK4 := Lib.hid (bt HK3.out HBX2.out)
                clear hb2
                refine hK.out _ _ (fun _ => ⟨HX5.out _ HK3.out, HCS.out _ HK4.out⟩) (fun hH => ?_)
                replace hH := hH (by decide)
                clear hK K
                try simp only [Act.put, List.setIfInBounds_toArray, List.set_cons_zero, List.set_cons_succ]
                refine takeZ 19 (v := ?_) (gi rfl) (by kernel_rfl) (fun _ _ _ h => h) hH (.inl ⟨rfl, fun w hW => ?_⟩) ?_
                rotate_left
                · (go_simp; try with_reducible rfl)
                try simp only [Act.put, List.setIfInBounds_toArray, List.set_cons_zero, List.set_cons_succ]
                refine takeZ 20 (v := ?_) (gi rfl) (by kernel_rfl) (fun _ _ _ h => h) hH (.inl ⟨rfl, fun w hW => ?_⟩) ?_
                rotate_left
                · (go_simp; try with_reducible rfl)
                try simp only [Act.put, List.setIfInBounds_toArray, List.set_cons_zero, List.set_cons_succ]
                refine yieldZ 21 (v := ?_) (by kernel_rfl) (gi rfl) hH (.inl ⟨rfl, fun w hW => ?_⟩) ?_
                rotate_left
                · (go_simp; try with_reducible rfl)
                try simp only [Act.put, List.setIfInBounds_toArray, List.set_cons_zero, List.set_cons_succ]
                refine doneZ (by kernel_rfl) ?_ _
                clear hH
                go_wp2_with fail
                go_ret
                exact ⟨by rw [F.out]; rfl, bt HK4.out HB.out⟩
              · have hq : (sc != G) = false := by unfold bne; rw [hsg]; try rfl
                have hq3 : (!(sc == G)) = false := by rw [hsg]; rfl
                have hq2 : (sc ^^ G) = false := by revert hq; cases sc <;> cases G <;> decide
                have F := Lib.hid (show R = winB f c0 id N1 (win.drop (k + 1)) last by rw [HST.out, decide_eq_true h1, hgd, hsg]; simp)
                clear h1 hsg
                go_wp2_with fail
                refine regionZ 21 (fun w' => (w'.cell? ⟨wr.heap.size, 0, none⟩ = some (.int .i64 id) ∧ w'.cell? ⟨wr.heap.size, 1, none⟩ = some (.slice XA xn xc) ∧ w'.cell? ⟨wr.heap.size, 2, none⟩ = some (.int .i64 p) ∧ w'.cell? ⟨wr.heap.size, 3, none⟩ = some (.int .i64 q) ∧ w'.cell? ⟨wr.heap.size, 4, none⟩ = some (.bool sc)) ∧ w'.cell? ⟨w.heap.size, 0, none⟩ = some (.int .i64 c0) ∧ w'.cell? ⟨w.heap.size, 1, none⟩ = some (.int .i64 c1) ∧ w'.cell? ⟨w.heap.size, 2, none⟩ = some (.int .i64 c2) ∧ w'.cell? ⟨w.heap.size, 3, none⟩ = some (.int .i64 c3) ∧ w'.cell? ⟨w.heap.size, 4, none⟩ = some (.int .i64 c4) ∧ w'.cell? ⟨w.heap.size, 5, none⟩ = some (.int .i64 c5) ∧ w'.cell? ⟨w.heap.size, 6, none⟩ = some (.int .i64 c6) ∧ w'.cell? ⟨w.heap.size, 7, none⟩ = some (.int .i64 c7) ∧ w'.cell? ⟨w.heap.size, 8, none⟩ = some (.int .i64 c8) ∧ w'.cell? ⟨w.heap.size, 9, none⟩ = some (.int .i64 c9) ∧ w'.cell? ⟨w.heap.size, 10, none⟩ = some (.int .i64 c10)) (by kernel_rfl) (⟨HX5.out _ (Below.refl _ X).drew, HCS.out _ HBX2.out.drew⟩) (fun hH => ?_)
                refine takeZ 0 (v := ?_) (gi rfl) (by kernel_rfl) (fun _ _ _ h => h) hH (.inl ⟨rfl, fun w hW => ?_⟩) ?_
                rotate_left
                · (obtain ⟨⟨hX0, hX1, hX2, hX3, hX4⟩, hW0, hW1, hW2, hW3, hW4, hW5, hW6, hW7, hW8, hW9, hW10⟩ := hW; go_simp; try with_reducible rfl)
                try simp only [Act.put, List.setIfInBounds_toArray, List.set_cons_zero, List.set_cons_succ]
                refine takeZ 1 (v := ?_) (gi rfl) (by kernel_rfl) (fun _ _ _ h => h) hH (.inl ⟨rfl, fun w hW => ?_⟩) ?_
                rotate_left
                · (go_simp; try with_reducible rfl)
                try simp only [Act.put, List.setIfInBounds_toArray, List.set_cons_zero, List.set_cons_succ]
                refine takeZ 2 (v := ?_) (gi rfl) (by kernel_rfl) (fun _ _ _ h => h) hH (.inl ⟨rfl, fun w hW => ?_⟩) ?_
                rotate_left
                · (go_simp; try with_reducible rfl)
                try simp only [Act.put, List.setIfInBounds_toArray, List.set_cons_zero, List.set_cons_succ]
                refine takeZ 3 (v := ?_) (gi rfl) (by kernel_rfl) (fun _ _ _ h => h) hH (.inl ⟨rfl, fun w hW => ?_⟩) ?_
                rotate_left
                · (obtain ⟨⟨hX0, hX1, hX2, hX3, hX4⟩, hW0, hW1, hW2, hW3, hW4, hW5, hW6, hW7, hW8, hW9, hW10⟩ := hW; go_simp; try with_reducible rfl)
                try simp only [Act.put, List.setIfInBounds_toArray, List.set_cons_zero, List.set_cons_succ]
                refine oneZ 4 (by kernel_rfl) (gi rfl) (fun K hK => ?_)
                try simp only [Act.put, List.setIfInBounds_toArray, List.set_cons_zero, List.set_cons_succ]
                go_simp
                refine (HRS.out X.drew HBX.out.drew).mono ?_
                rintro e x1 ⟨rfl, hb1⟩
                have HK := Lib.hid (show Below X.heap.size X x1 from bt hb1 (Below.refl _ X).drew)
                have HK2 := Lib.hid (bt HK.out HBX2.out)
                clear hb1
                refine hK.out _ _ (fun _ => ⟨HX5.out _ HK.out, HCS.out _ HK2.out⟩) (fun hH => ?_)
                replace hH := hH (by decide)
                clear hK K
                try simp only [Act.put, List.setIfInBounds_toArray, List.set_cons_zero, List.set_cons_succ]
                refine takeZ 5 (v := ?_) (gi rfl) (by kernel_rfl) (fun _ _ _ h => h) hH (.inl ⟨rfl, fun w hW => ?_⟩) ?_
                rotate_left
                · (go_simp; try with_reducible rfl)
                try simp only [Act.put, List.setIfInBounds_toArray, List.set_cons_zero, List.set_cons_succ]
                refine takeZ 6 (v := ?_) (gi rfl) (by kernel_rfl) (fun _ _ _ h => h) hH (.inl ⟨rfl, fun w hW => ?_⟩) ?_
                rotate_left
                · (go_simp; try with_reducible rfl)
                try simp only [Act.put, List.setIfInBounds_toArray, List.set_cons_zero, List.set_cons_succ]
                refine takeZ 7 (v := ?_) (gi rfl) (by kernel_rfl) (fun _ _ _ h => h) hH (.inl ⟨rfl, fun w hW => ?_⟩) ?_
                rotate_left
                · (go_simp; try with_reducible rfl)
                try simp only [Act.put, List.setIfInBounds_toArray, List.set_cons_zero, List.set_cons_succ]
                refine takeZ 8 (v := ?_) (gi rfl) (by kernel_rfl) (fun _ _ _ h => h) hH (.inl ⟨rfl, fun w hW => ?_⟩) ?_
                rotate_left
                · (obtain ⟨⟨hX0, hX1, hX2, hX3, hX4⟩, hW0, hW1, hW2, hW3, hW4, hW5, hW6, hW7, hW8, hW9, hW10⟩ := hW; go_simp; try with_reducible rfl)
                try simp only [Act.put, List.setIfInBounds_toArray, List.set_cons_zero, List.set_cons_succ]
                refine takeZ 9 (v := ?_) (gi rfl) (by kernel_rfl) (fun _ _ _ h => h) hH (.inl ⟨rfl, fun w hW => ?_⟩) ?_
                rotate_left
                · (go_simp; try with_reducible rfl)
                try simp only [Act.put, List.setIfInBounds_toArray, List.set_cons_zero, List.set_cons_succ]
                refine takeZ 10 (v := ?_) (gi rfl) (by kernel_rfl) (fun _ _ _ h => h) hH (.inl ⟨rfl, fun w hW => ?_⟩) ?_
                rotate_left
                · (go_simp; try with_reducible rfl)
                try simp only [Act.put, List.setIfInBounds_toArray, List.set_cons_zero, List.set_cons_succ]
                refine takeZ 11 (v := ?_) (gi rfl) (by kernel_rfl) (fun _ _ _ h => h) hH (.inl ⟨rfl, fun w hW => ?_⟩) ?_
                rotate_left
                · (go_simp; try with_reducible rfl)
                try simp only [Act.put, List.setIfInBounds_toArray, List.set_cons_zero, List.set_cons_succ]
                refine takeZ 12 (v := ?_) (gi rfl) (by kernel_rfl) (fun _ _ _ h => h) hH (.inl ⟨rfl, fun w hW => ?_⟩) ?_
                rotate_left
                · (go_simp; try with_reducible rfl)
                try simp only [Act.put, List.setIfInBounds_toArray, List.set_cons_zero, List.set_cons_succ]
                refine takeZ 13 (v := ?_) (gi rfl) (by kernel_rfl) (fun _ _ _ h => h) hH (.inl ⟨rfl, fun w hW => ?_⟩) ?_
                rotate_left
                · (go_simp; try with_reducible rfl)
                try simp only [Act.put, List.setIfInBounds_toArray, List.set_cons_zero, List.set_cons_succ]
                refine takeZ 14 (v := ?_) (gi rfl) (by kernel_rfl) (fun _ _ _ h => h) hH (.inl ⟨rfl, fun w hW => ?_⟩) ?_
                rotate_left
                · (obtain ⟨⟨hX0, hX1, hX2, hX3, hX4⟩, hW0, hW1, hW2, hW3, hW4, hW5, hW6, hW7, hW8, hW9, hW10⟩ := hW; go_simp; try with_reducible rfl)
                try simp only [Act.put, List.setIfInBounds_toArray, List.set_cons_zero, List.set_cons_succ]
                refine takeZ 15 (v := ?_) (gi rfl) (by kernel_rfl) (fun _ _ _ h => h) hH (.inl ⟨rfl, fun w hW => ?_⟩) ?_
                rotate_left
                · (go_simp; try with_reducible rfl)
                try simp only [Act.put, List.setIfInBounds_toArray, List.set_cons_zero, List.set_cons_succ]
                refine takeZ 16 (v := ?_) (gi rfl) (by kernel_rfl) (fun _ _ _ h => h) hH (.inl ⟨rfl, fun w hW => ?_⟩) ?_
                rotate_left
                · (go_simp; try with_reducible rfl)
                try simp only [Act.put, List.setIfInBounds_toArray, List.set_cons_zero, List.set_cons_succ]
                refine takeZ 17 (v := ?_) (gi rfl) (by kernel_rfl) (fun _ _ _ h => h) hH (.inl ⟨rfl, fun w hW => ?_⟩) ?_
                rotate_left
                · (obtain ⟨⟨hX0, hX1, hX2, hX3, hX4⟩, hW0, hW1, hW2, hW3, hW4, hW5, hW6, hW7, hW8, hW9, hW10⟩ := hW; go_simp; try with_reducible rfl)
                try simp only [Act.put, List.setIfInBounds_toArray, List.set_cons_zero, List.set_cons_succ]
                refine oneZ 18 (by kernel_rfl) (gi rfl) (fun K hK => ?_)
                try simp only [Act.put, List.setIfInBounds_toArray, List.set_cons_zero, List.set_cons_succ]
                go_simp
                refine (HTN.out x1).mono ?_
                rintro e x2 ⟨rfl, hb2⟩
                have HK3 := Lib.hid (bt hb2 HK.out)
                have HK4 := Lib.hid (bt HK3.out HBX2.out)
                clear hb2
                refine hK.out _ _ (fun _ => ⟨HX5.out _ HK3.out, HCS.out _ HK4.out⟩) (fun hH => ?_)
                replace hH := hH (by decide)
                clear hK K
                try simp only [Act.put, List.setIfInBounds_toArray, List.set_cons_zero, List.set_cons_succ]
                refine takeZ 19 (v := ?_) (gi rfl) (by kernel_rfl) (fun _ _ _ h => h) hH (.inl ⟨rfl, fun w hW => ?_⟩) ?_
                rotate_left
                · (go_simp; try with_reducible rfl)
                try simp only [Act.put, List.setIfInBounds_toArray, List.set_cons_zero, List.set_cons_succ]
                refine takeZ 20 (v := ?_) (gi rfl) (by kernel_rfl) (fun _ _ _ h => h) hH (.inl ⟨rfl, fun w hW => ?_⟩) ?_
                rotate_left
                · (go_simp; try with_reducible rfl)
                try simp only [Act.put, List.setIfInBounds_toArray, List.set_cons_zero, List.set_cons_succ]
                refine yieldZ 21 (v := ?_) (by kernel_rfl) (gi rfl) hH (.inl ⟨rfl, fun w hW => ?_⟩) ?_
                rotate_left
                · (go_simp; try with_reducible rfl)
                try simp only [Act.put, List.setIfInBounds_toArray, List.set_cons_zero, List.set_cons_succ]
                refine doneZ (by kernel_rfl) ?_ _
                clear hH
                obtain ⟨y0, -⟩ := HX5.out x2 HK3.out
                go_wp2_with fail
                exact ⟨⟨k + 1, id, by rw [HN.out]; omega, by go_num, rfl, by rw [HKN.out]; exact F.out, HK4.out⟩, by simp [intOf]; omega⟩
            · have h1d : decide (id ≤ a) = true := decide_eq_true (by omega)
              have F := Lib.hid (show R = false by rw [HST.out]; rw [decide_eq_false h1]; simp)
              clear h1
              go_wp2_with fail
              refine regionZ 21 (fun w' => (w'.cell? ⟨wr.heap.size, 0, none⟩ = some (.int .i64 id) ∧ w'.cell? ⟨wr.heap.size, 1, none⟩ = some (.slice XA xn xc) ∧ w'.cell? ⟨wr.heap.size, 2, none⟩ = some (.int .i64 p) ∧ w'.cell? ⟨wr.heap.size, 3, none⟩ = some (.int .i64 q) ∧ w'.cell? ⟨wr.heap.size, 4, none⟩ = some (.bool sc)) ∧ w'.cell? ⟨w.heap.size, 0, none⟩ = some (.int .i64 c0) ∧ w'.cell? ⟨w.heap.size, 1, none⟩ = some (.int .i64 c1) ∧ w'.cell? ⟨w.heap.size, 2, none⟩ = some (.int .i64 c2) ∧ w'.cell? ⟨w.heap.size, 3, none⟩ = some (.int .i64 c3) ∧ w'.cell? ⟨w.heap.size, 4, none⟩ = some (.int .i64 c4) ∧ w'.cell? ⟨w.heap.size, 5, none⟩ = some (.int .i64 c5) ∧ w'.cell? ⟨w.heap.size, 6, none⟩ = some (.int .i64 c6) ∧ w'.cell? ⟨w.heap.size, 7, none⟩ = some (.int .i64 c7) ∧ w'.cell? ⟨w.heap.size, 8, none⟩ = some (.int .i64 c8) ∧ w'.cell? ⟨w.heap.size, 9, none⟩ = some (.int .i64 c9) ∧ w'.cell? ⟨w.heap.size, 10, none⟩ = some (.int .i64 c10)) (by kernel_rfl) (⟨HX5.out _ (Below.refl _ X).drew, HCS.out _ HBX2.out.drew⟩) (fun hH => ?_)
              refine takeZ 0 (v := ?_) (gi rfl) (by kernel_rfl) (fun _ _ _ h => h) hH (.inl ⟨rfl, fun w hW => ?_⟩) ?_
              rotate_left
              · (obtain ⟨⟨hX0, hX1, hX2, hX3, hX4⟩, hW0, hW1, hW2, hW3, hW4, hW5, hW6, hW7, hW8, hW9, hW10⟩ := hW; go_simp; try with_reducible rfl)
              try simp only [Act.put, List.setIfInBounds_toArray, List.set_cons_zero, List.set_cons_succ]
              refine takeZ 1 (v := ?_) (gi rfl) (by kernel_rfl) (fun _ _ _ h => h) hH (.inl ⟨rfl, fun w hW => ?_⟩) ?_
              rotate_left
              · (go_simp; try with_reducible rfl)
              try simp only [Act.put, List.setIfInBounds_toArray, List.set_cons_zero, List.set_cons_succ]
              refine takeZ 2 (v := ?_) (gi rfl) (by kernel_rfl) (fun _ _ _ h => h) hH (.inl ⟨rfl, fun w hW => ?_⟩) ?_
              rotate_left
              · (go_simp; try with_reducible rfl)
              try simp only [Act.put, List.setIfInBounds_toArray, List.set_cons_zero, List.set_cons_succ]
              refine takeZ 3 (v := ?_) (gi rfl) (by kernel_rfl) (fun _ _ _ h => h) hH (.inl ⟨rfl, fun w hW => ?_⟩) ?_
              rotate_left
              · (obtain ⟨⟨hX0, hX1, hX2, hX3, hX4⟩, hW0, hW1, hW2, hW3, hW4, hW5, hW6, hW7, hW8, hW9, hW10⟩ := hW; go_simp; try with_reducible rfl)
              try simp only [Act.put, List.setIfInBounds_toArray, List.set_cons_zero, List.set_cons_succ]
              refine oneZ 4 (by kernel_rfl) (gi rfl) (fun K hK => ?_)
              try simp only [Act.put, List.setIfInBounds_toArray, List.set_cons_zero, List.set_cons_succ]
              go_simp
              refine (HRS.out X.drew HBX.out.drew).mono ?_
              rintro e x1 ⟨rfl, hb1⟩
              have HK := Lib.hid (show Below X.heap.size X x1 from bt hb1 (Below.refl _ X).drew)
              have HK2 := Lib.hid (bt HK.out HBX2.out)
              clear hb1
              refine hK.out _ _ (fun _ => ⟨HX5.out _ HK.out, HCS.out _ HK2.out⟩) (fun hH => ?_)
              replace hH := hH (by decide)
              clear hK K
              try simp only [Act.put, List.setIfInBounds_toArray, List.set_cons_zero, List.set_cons_succ]
              refine takeZ 5 (v := ?_) (gi rfl) (by kernel_rfl) (fun _ _ _ h => h) hH (.inl ⟨rfl, fun w hW => ?_⟩) ?_
              rotate_left
              · (go_simp; try with_reducible rfl)
              try simp only [Act.put, List.setIfInBounds_toArray, List.set_cons_zero, List.set_cons_succ]
              refine takeZ 6 (v := ?_) (gi rfl) (by kernel_rfl) (fun _ _ _ h => h) hH (.inl ⟨rfl, fun w hW => ?_⟩) ?_
              rotate_left
              · (go_simp; try with_reducible rfl)
              try simp only [Act.put, List.setIfInBounds_toArray, List.set_cons_zero, List.set_cons_succ]
              refine takeZ 7 (v := ?_) (gi rfl) (by kernel_rfl) (fun _ _ _ h => h) hH (.inl ⟨rfl, fun w hW => ?_⟩) ?_
              rotate_left
              · (go_simp; try with_reducible rfl)
              try simp only [Act.put, List.setIfInBounds_toArray, List.set_cons_zero, List.set_cons_succ]
              refine takeZ 8 (v := ?_) (gi rfl) (by kernel_rfl) (fun _ _ _ h => h) hH (.inl ⟨rfl, fun w hW => ?_⟩) ?_
              rotate_left
              · (obtain ⟨⟨hX0, hX1, hX2, hX3, hX4⟩, hW0, hW1, hW2, hW3, hW4, hW5, hW6, hW7, hW8, hW9, hW10⟩ := hW; go_simp; try with_reducible rfl)
              try simp only [Act.put, List.setIfInBounds_toArray, List.set_cons_zero, List.set_cons_succ]
              refine takeZ 9 (v := ?_) (gi rfl) (by kernel_rfl) (fun _ _ _ h => h) hH (.inl ⟨rfl, fun w hW => ?_⟩) ?_
              rotate_left
              · (go_simp; try with_reducible rfl)
              try simp only [Act.put, List.setIfInBounds_toArray, List.set_cons_zero, List.set_cons_succ]
              refine takeZ 10 (v := ?_) (gi rfl) (by kernel_rfl) (fun _ _ _ h => h) hH (.inl ⟨rfl, fun w hW => ?_⟩) ?_
              rotate_left
              · (go_simp; try with_reducible rfl)
              try simp only [Act.put, List.setIfInBounds_toArray, List.set_cons_zero, List.set_cons_succ]
              refine takeZ 11 (v := ?_) (gi rfl) (by kernel_rfl) (fun _ _ _ h => h) hH (.inl ⟨rfl, fun w hW => ?_⟩) ?_
              rotate_left
              · (go_simp; try with_reducible rfl)
              try simp only [Act.put, List.setIfInBounds_toArray, List.set_cons_zero, List.set_cons_succ]
              refine takeZ 12 (v := ?_) (gi rfl) (by kernel_rfl) (fun _ _ _ h => h) hH (.inl ⟨rfl, fun w hW => ?_⟩) ?_
              rotate_left
              · (go_simp; try with_reducible rfl)
              try simp only [Act.put, List.setIfInBounds_toArray, List.set_cons_zero, List.set_cons_succ]
              refine takeZ 13 (gi rfl) (by kernel_rfl) (fun _ _ _ h => h) hH (.inr ⟨rfl, rfl⟩) ?_
              try simp only [Act.put, List.setIfInBounds_toArray, List.set_cons_zero, List.set_cons_succ]
              refine takeZ 14 (gi rfl) (by kernel_rfl) (fun _ _ _ h => h) hH (.inr ⟨rfl, rfl⟩) ?_
              try simp only [Act.put, List.setIfInBounds_toArray, List.set_cons_zero, List.set_cons_succ]
              refine takeZ 15 (gi rfl) (by kernel_rfl) (fun _ _ _ h => h) hH (.inr ⟨rfl, rfl⟩) ?_
              try simp only [Act.put, List.setIfInBounds_toArray, List.set_cons_zero, List.set_cons_succ]
              refine takeZ 16 (gi rfl) (by kernel_rfl) (fun _ _ _ h => h) hH (.inr ⟨rfl, rfl⟩) ?_
              try simp only [Act.put, List.setIfInBounds_toArray, List.set_cons_zero, List.set_cons_succ]
              refine takeZ 17 (gi rfl) (by kernel_rfl) (fun _ _ _ h => h) hH (.inr ⟨rfl, rfl⟩) ?_
              try simp only [Act.put, List.setIfInBounds_toArray, List.set_cons_zero, List.set_cons_succ]
              refine takeZ 18 (gi rfl) (by kernel_rfl) (fun _ _ _ h => h) hH (.inr ⟨rfl, rfl⟩) ?_
              try simp only [Act.put, List.setIfInBounds_toArray, List.set_cons_zero, List.set_cons_succ]
              refine takeZ 19 (gi rfl) (by kernel_rfl) (fun _ _ _ h => h) hH (.inr ⟨rfl, rfl⟩) ?_
              try simp only [Act.put, List.setIfInBounds_toArray, List.set_cons_zero, List.set_cons_succ]
              refine takeZ 20 (gi rfl) (by kernel_rfl) (fun _ _ _ h => h) hH (.inr ⟨rfl, rfl⟩) ?_
              try simp only [Act.put, List.setIfInBounds_toArray, List.set_cons_zero, List.set_cons_succ]
              refine yieldZ 21 (v := ?_) (by kernel_rfl) (gi rfl) hH (.inl ⟨rfl, fun w hW => ?_⟩) ?_
              rotate_left
              · (go_simp; try with_reducible rfl)
              try simp only [Act.put, List.setIfInBounds_toArray, List.set_cons_zero, List.set_cons_succ]
              refine doneZ (by kernel_rfl) ?_ _
              clear hH
              go_wp2_with fail
              go_ret
              exact ⟨by rw [F.out]; rfl, bt HK2.out HB.out⟩
        · have hkn : k = n := by omega
          have F := Lib.hid (show R = decide (last = a) by rw [HRR.out, List.drop_eq_nil_of_le (by rw [HN.out]; omega), winB])
          clear hbr
          by_cases hla : last = a
          · have F2 := Lib.hid (F.out.trans (decide_eq_true hla))
            have hlb2 : (last == a) = true := by simpa using hla
            clear hla
            go_wp2_with fail
            go_ret
            exact ⟨by rw [F2.out]; rfl, bt HBR.out HB.out⟩
          · have F2 := Lib.hid (F.out.trans (decide_eq_false hla))
            have hlb2 : (last == a) = false := by simpa using hla
            clear hla
            go_wp2_with fail
            go_ret
            exact ⟨by rw [F2.out]; rfl, bt HBR.out HB.out⟩
  · have F := Lib.hid (HNO.out hlen)
    by_cases hA : (n : Int) = count
    · have hA0 : ((n : Int) != count) = false := by simpa using hA
      have hB1 : decide (count < (n : Int)) = false := decide_eq_false (by omega)
      have hB2 : decide (c1 < (n : Int)) = true := decide_eq_true (by omega)
      clear hlen hA
      go_enter Tryz.func43, Tryz.ntmps43
      go_wp2_with fail
      go_ret
      exact ⟨by rw [F.out]; rfl, HB.out⟩
    · have hA0 : ((n : Int) != count) = true := by simpa using hA
      by_cases hA' : (n : Int) = c1
      · have hA1 : ((n : Int) != c1) = false := by simpa using hA'
        have hB1 : decide (count < (n : Int)) = true := decide_eq_true (by omega)
        clear hlen hA hA'
        go_enter Tryz.func43, Tryz.ntmps43
        go_wp2_with fail
        go_ret
        exact ⟨by rw [F.out]; rfl, HB.out⟩
      · have hA1 : ((n : Int) != c1) = true := by simpa using hA'
        clear hlen hA hA'
        go_enter Tryz.func43, Tryz.ntmps43
        go_wp2_with fail
        go_ret
        exact ⟨by rw [F.out]; rfl, HB.out⟩
end Go.Proofs.YtcaeihfgdlffkaaGreatRRRRDoor.RswW
