/- States that are more than is waited for, walked (copseref10.Much, copseref12.Much, copseref14.Much, copseref17.Much, copseref28.Much; the first: lines of ShpU); equal numbers (copseref01.Same: lines of LavA). -/
import Derived.Test.YtcaeihfgdlffkaaGreatRRRRDoorPk25
import Derived.Test.YtcaeihfgdlffkaaGreatRRRRDoorPk28
import Derived.Test.YtcaeihfgdlffkaaGreatRRRRDoorPk20
import Derived.Test.YtcaeihfgdlffkaaGreatRRRRDoorPk13
import Derived.Test.YtcaeihfgdlffkaaGreatRRRRDoorPk30
namespace Go.Proofs.YtcaeihfgdlffkaaGreatRRRRDoor.MucW
set_option linter.unusedVariables false
set_option linter.unusedSimpArgs false
open Go.RowKit Base SeqM CfM RptC ScoX ShpM ShpT StM StV RfoW ShpV

theorem any_next {α : Type} {l : List α} {k : Nat} {x : α} (h : l[k]? = some x) (f : α → Bool) : (l.take (k + 1)).any f = ((l.take k).any f || f x) := by
  rw [SeqM.take_next h, List.any_append]; simp
def muchB (l : List Nd) : Bool := decide (200 < l.length) || l.any fun x => decide (20 < x.coef.length)
theorem any_no {α : Type} {l : List α} {k : Nat} {f : α → Bool} (h : (l.take k).any f = true) : l.any f = true := by
  rw [List.any_eq_true] at h ⊢
  obtain ⟨x, hx, hf⟩ := h
  exact ⟨x, List.mem_of_mem_take hx, hf⟩
def URel (n : Nat) (p : Nat → Prop) (B : Nat) (w : World) (i : Value) (wr : World) : Prop := ∃ k : Nat, k ≤ n ∧ i = .int .i64 k ∧ p k ∧ Below B w wr
set_option maxHeartbeats 2000000 in
set_option maxRecDepth 100000 in
theorem Much_any (v : Value) (l : List Nd) (dim : Int) (lo : Nat) (w : World) (h : Nds w lo w.heap.size v l) :
    Calls Tryz.prog 58 #[.agg #[.int .i64 dim, v]] w fun e w' => e = .returned (.bool (muchB l)) ∧ Below w.heap.size w w' := by
  have HS := Lib.hid h
  obtain ⟨A, cap, rfl, hc1, hc2, _⟩ := h.form
  obtain ⟨n, hn⟩ : ∃ n, l.length = n := ⟨_, rfl⟩
  have HN := Lib.hid hn
  rw [hn] at HS hc1 ⊢
  clear h hn
  by_cases hn1 : 200 < n
  · have F := Lib.hid (show muchB l = true by unfold muchB; rw [HN.out, decide_eq_true hn1]; rfl)
    have hn1b : (200 : Int) < (n : Int) := by omega
    go_enter Tryz.func58, Tryz.ntmps58
    go_wp2_with fail
    go_ret
    exact ⟨ret_bool F.out.symm, below_a1 _ _⟩
  · have HV := Lib.hid (show muchB l = l.any fun x => decide (20 < x.coef.length) by unfold muchB; rw [HN.out, decide_eq_false hn1]; rfl)
    have hn1b : ¬ (200 : Int) < (n : Int) := by omega
    go_enter Tryz.func58, Tryz.ntmps58
    go_wp2_with fail
    have b1 : (w.alloc (.cells #[.int .i64 dim, .slice A n cap] 105)).cell? ⟨w.heap.size, 1, none⟩ = some (.slice A n cap) := by go_simp
    have HB := Lib.hid (below_a1 w (.cells #[.int .i64 dim, .slice A n cap] 105))
    generalize w.alloc (.cells #[.int .i64 dim, .slice A n cap] 105) = wb at *
    go_loopw [3] (fun i wr => IRel n (fun k => (l.take k).any (fun x => decide (20 < x.coef.length)) = false) wb i wr) (fun i _ => n - (intOf i).toNat)
    case atStart => exact ⟨0, Nat.zero_le _, rfl, by simp, rfl⟩
    case round =>
      obtain ⟨k, hk, rfl, ht, rfl⟩ := hrel
      have HT := Lib.hid ht
      clear ht
      by_cases hlt : k < n
      · obtain ⟨x, hx⟩ : ∃ x, l[k]? = some x := ⟨_, List.getElem?_eq_getElem (by rw [HN.out]; exact hlt)⟩
        obtain ⟨ad, cv, rfl, hbk, d0, _, _, _, _, hcv⟩ := (HS.out.below HB.out).get hx
        obtain ⟨AC, cc, rfl, hcc1, hcc2, _, _⟩ := hcv
        unfold maxLen at hcc2
        have HX := Lib.hid (any_next hx (fun x : Nd => decide (20 < x.coef.length)))
        obtain ⟨cn, hcn⟩ : ∃ cn, x.coef.length = cn := ⟨_, rfl⟩
        rw [hcn] at HX d0 hcc1
        clear hx hcn
        by_cases hc : 20 < cn
        · have hcb : (20 : Int) < (cn : Int) := by omega
          have F := Lib.hid (show muchB l = true by rw [HV.out]; exact any_no (k := k + 1) (by rw [HX.out, decide_eq_true hc]; simp))
          go_wp2_with fail
          go_ret
          exact ⟨ret_bool F.out.symm, HB.out⟩
        · have hcb : ¬ (20 : Int) < (cn : Int) := by omega
          have F := Lib.hid (decide_eq_false hc)
          go_wp2_with fail
          exact ⟨⟨k + 1, by omega, by go_num, (show (l.take (k + 1)).any (fun x => decide (20 < x.coef.length)) = false by rw [HX.out, HT.out, F.out]; rfl), rfl⟩, by simp [intOf]; omega⟩
      · have F := Lib.hid (show muchB l = false by
          have := HT.out
          rw [List.take_of_length_le (by rw [HN.out]; omega)] at this
          rw [HV.out, this])
        go_wp2_with fail
        go_ret
        exact ⟨ret_bool F.out.symm, HB.out⟩

theorem any_all {α : Type} {l : List α} {k : Nat} (hk : l.length ≤ k) {f : α → Bool} (h : (l.take k).any f = false) : l.any f = false := by rwa [List.take_of_length_le hk] at h
def AnRel {α : Type} (l : List α) (f : α → Bool) (w : World) (i : Value) (wr : World) : Prop := ∃ k : Nat, k ≤ l.length ∧ i = .int .i64 k ∧ (l.take k).any f = false ∧ Below w.heap.size w wr
theorem anyn {α : Type} {l : List α} {k : Nat} {x : α} (h : l[k]? = some x) (f : α → Bool) : (l.take (k + 1)).any f = ((l.take k).any f || f x) := by
  rw [SeqM.take_next h, List.any_append]; simp
def muchGr (l : List Gr) : Bool := decide (30 < l.length) || l.any fun g => muchB g.nodes
set_option maxHeartbeats 4000000 in
set_option maxRecDepth 100000 in
theorem Much12_any (v : Value) (l : List Gr) (w : World) (h : Trs w 0 w.heap.size v l) :
    Calls Tryz.prog 31 #[v] w fun e w' => e = .returned (.bool (muchGr l)) ∧ Below w.heap.size w w' := by
  have HS := Lib.hid h
  obtain ⟨A, cap, rfl, hc1, hc2, _⟩ := h.form
  obtain ⟨n, hn⟩ : ∃ n, l.length = n := ⟨_, rfl⟩
  have HN := Lib.hid hn
  have HV0 := Lib.hid (show muchGr l = (decide (30 < l.length) || l.any fun g => muchB g.nodes) from rfl)
  generalize muchGr l = R at *
  rw [hn] at HS hc1 HV0 ⊢
  clear h hn
  by_cases hn1 : 30 < n
  · have F := Lib.hid (show R = true by rw [HV0.out, decide_eq_true hn1]; rfl)
    have hn1b : (30 : Int) < (n : Int) := by omega
    go_enter Tryz.func31, Tryz.ntmps31
    go_wp2_with fail
    go_ret
    exact ⟨ret_bool F.out.symm, Below.refl _ _⟩
  · have HV := Lib.hid (show R = l.any fun g => muchB g.nodes by rw [HV0.out, decide_eq_false hn1]; rfl)
    have hn1b : ¬ (30 : Int) < (n : Int) := by omega
    go_enter Tryz.func31, Tryz.ntmps31
    go_wp2_with fail
    go_loopw [3] (fun i wr => AnRel l (fun g => muchB g.nodes) w i wr) (fun i _ => n - (intOf i).toNat)
    case atStart => exact ⟨0, Nat.zero_le _, rfl, rfl, Below.refl _ _⟩
    case round =>
      obtain ⟨k, hk, rfl, ht, hbr⟩ := hrel
      rw [HN.out] at hk
      have HT := Lib.hid ht
      have HBR := Lib.hid hbr
      clear ht
      by_cases hlt : k < n
      · obtain ⟨g, hg⟩ : ∃ x, l[k]? = some x := ⟨_, List.getElem?_eq_getElem (by rw [HN.out]; exact hlt)⟩
        obtain ⟨ad, xv, rfl, hbk, hcs, hnd⟩ := (HS.out.up hbr).get hg
        have HX := Lib.hid (anyn hg (fun g : Gr => muchB g.nodes))
        obtain ⟨NA, nc, hxf, hn1', hn2, _⟩ := hnd.form
        subst hxf
        obtain ⟨dim, nodes, born⟩ := g
        have HM := Lib.hid (Much_any _ nodes dim 0 wr hnd)
        have t0 : wr.cell? (ad.add (k * 2)) = some (.int .i64 dim) := hcs 0 _ rfl
        have t1 : wr.cell? ⟨(ad.add (k * 2)).block, (ad.add (k * 2)).off + 1, none⟩ = some (.slice NA nodes.length nc) := by rw [add_off _ _ _ (by decide)]; exact hcs 1 _ rfl
        dsimp only at HX HM hn1' t1
        generalize muchB nodes = MB at *
        generalize nodes.length = nl at *
        clear hcs hnd hg hbk hbr
        go_wp2_with fail
        refine HM.out.mono ?_
        rintro e w2 ⟨rfl, hb2⟩
        have HB2 := Lib.hid (bt hb2 HBR.out)
        clear hb2 t0 t1
        cases MB
        · have F := Lib.hid (show (l.take (k + 1)).any (fun g => muchB g.nodes) = false by rw [HX.out, HT.out]; rfl)
          go_wp2_with fail
          exact ⟨⟨k + 1, by rw [HN.out]; omega, by go_num, F.out, HB2.out⟩, by simp [intOf]; omega⟩
        · have F := Lib.hid (show R = true by rw [HV.out]; exact any_no (k := k + 1) (by rw [HX.out]; simp))
          go_wp2_with fail
          go_ret
          exact ⟨ret_bool F.out.symm, HB2.out⟩
      · have F := Lib.hid (show R = false by rw [HV.out]; exact any_all (by rw [HN.out]; omega) HT.out)
        clear hbr
        go_wp2_with fail
        go_ret
        exact ⟨ret_bool F.out.symm, HBR.out⟩
set_option maxHeartbeats 4000000 in
set_option maxRecDepth 100000 in
theorem Much14_any (v : Value) (l : List Gr) (w : World) (h : Grs w 0 w.heap.size v l) :
    Calls Tryz.prog 12 #[v] w fun e w' => e = .returned (.bool (muchGr l)) ∧ Below w.heap.size w w' := by
  have HV0 := Lib.hid (show muchGr l = (decide (30 < l.length) || l.any fun g => muchB g.nodes) from rfl)
  have HTR := Lib.hid (fun hl => RTrees_any v l w h hl)
  have HMU := Lib.hid (fun u W hl => Much12_any u l W hl)
  obtain ⟨A, cap, rfl, hc1, hc2, _⟩ := h.form
  generalize muchGr l = R at *
  generalize l.length = n at *
  by_cases hn1 : 30 < n
  · have F := Lib.hid (show R = true by rw [HV0.out, decide_eq_true hn1]; rfl)
    have hn1b : (30 : Int) < (n : Int) := by omega
    go_enter Tryz.func12, Tryz.ntmps12
    go_wp2_with fail
    go_ret
    exact ⟨ret_bool F.out.symm, Below.refl _ _⟩
  · have hn1b : ¬ (30 : Int) < (n : Int) := by omega
    go_enter Tryz.func12, Tryz.ntmps12
    go_wp2_with fail
    refine (HTR.out (by omega)).mono ?_
    rintro e w1 ⟨⟨u, rfl, hu⟩, hb1⟩
    have HB1 := Lib.hid hb1
    have HU := Lib.hid hu
    obtain ⟨Au, cu, rfl, _, _, _⟩ := hu.form
    clear hb1 hu
    go_wp2_with fail
    refine (HMU.out _ w1 HU.out).mono ?_
    rintro e w2 ⟨rfl, hb2⟩
    have HB2 := Lib.hid (bt hb2 HB1.out)
    clear hb2
    go_wp2_with fail
    go_ret
    exact ⟨rfl, HB2.out⟩
def muchSn (l : List Sn) (most : Int) : Bool := decide (most < l.length) || l.any fun x => decide (20 < x.xs.length)
set_option maxHeartbeats 4000000 in
set_option maxRecDepth 100000 in
theorem Much17_any (v : Value) (l : List Sn) (most : Int) (w : World) (h : Sns w 0 w.heap.size v l) :
    Calls Tryz.prog 11 #[v, .int .i64 most] w fun e w' => e = .returned (.bool (muchSn l most)) ∧ w = w' := by
  have HS := Lib.hid h
  obtain ⟨A, cap, rfl, hc1, hc2, _⟩ := h.form
  obtain ⟨n, hn⟩ : ∃ n, l.length = n := ⟨_, rfl⟩
  have HN := Lib.hid hn
  have HV0 := Lib.hid (show muchSn l most = (decide (most < l.length) || l.any fun x => decide (20 < x.xs.length)) from rfl)
  generalize muchSn l most = R at *
  rw [hn] at HS hc1 HV0 ⊢
  clear h hn
  by_cases hn1 : most < (n : Int)
  · have F := Lib.hid (show R = true by rw [HV0.out, decide_eq_true hn1]; rfl)
    go_enter Tryz.func11, Tryz.ntmps11
    go_wp2_with fail
    go_ret
    exact ⟨ret_bool F.out.symm, rfl⟩
  · have HV := Lib.hid (show R = l.any fun x => decide (20 < x.xs.length) by rw [HV0.out, decide_eq_false hn1]; rfl)
    go_enter Tryz.func11, Tryz.ntmps11
    go_wp2_with fail
    go_loopw [5] (fun i wr => ∃ k : Nat, k ≤ n ∧ i = .int .i64 k ∧ (l.take k).any (fun x => decide (20 < x.xs.length)) = false ∧ w = wr) (fun i _ => n - (intOf i).toNat)
    case atStart => exact ⟨0, Nat.zero_le _, rfl, rfl, rfl⟩
    case round =>
      obtain ⟨k, hk, rfl, ht, rfl⟩ := hrel
      have HT := Lib.hid ht
      clear ht
      by_cases hlt : k < n
      · obtain ⟨x, hx⟩ : ∃ x, l[k]? = some x := ⟨_, List.getElem?_eq_getElem (by rw [HN.out]; exact hlt)⟩
        obtain ⟨ad, xv, rfl, hbk, hcs, hxs⟩ := HS.out.get hx
        obtain ⟨XA, xc, rfl, hxc1, hxc2, _, _⟩ := hxs
        unfold maxLen at hxc2
        have HX := Lib.hid (anyn hx (fun x : Sn => decide (20 < x.xs.length)))
        obtain ⟨id, xs, p, q, sc⟩ := x
        dsimp only at HX hxc1 hcs
        obtain ⟨xn, hxn⟩ : ∃ xn, xs.length = xn := ⟨_, rfl⟩
        rw [hxn] at HX hxc1 hcs
        have t1 : w.cell? ⟨(ad.add (k * 5)).block, (ad.add (k * 5)).off + 1, none⟩ = some (.slice XA xn xc) := by rw [add_off _ _ _ (by decide)]; exact hcs 1 _ rfl
        clear hcs hx hxn hbk
        by_cases hc : 20 < xn
        · have hcb : (20 : Int) < (xn : Int) := by omega
          have F := Lib.hid (show R = true by rw [HV.out]; exact any_no (k := k + 1) (by rw [HX.out, decide_eq_true hc]; simp))
          go_wp2_with fail
          go_ret
          exact ⟨ret_bool F.out.symm, rfl⟩
        · have hcb : ¬ (20 : Int) < (xn : Int) := by omega
          have F := Lib.hid (show (l.take (k + 1)).any (fun x => decide (20 < x.xs.length)) = false by rw [HX.out, HT.out, decide_eq_false hc]; rfl)
          go_wp2_with fail
          exact ⟨⟨k + 1, by omega, by go_num, F.out, (by first | rfl | trivial)⟩, by simp [intOf]; omega⟩
      · have F := Lib.hid (show R = false by rw [HV.out]; exact any_all (by rw [HN.out]; omega) HT.out)
        go_wp2_with fail
        go_ret
        exact ⟨ret_bool F.out.symm, rfl⟩
def muchSt (s : St) : Bool := muchSn s.win 300 || muchGr s.forest || decide (100 < s.alerts.length)
set_option maxHeartbeats 4000000 in
set_option maxRecDepth 100000 in
theorem MuchS_any (s : St) (wv fv av : Value) (w : World) (h : StIn w w.heap.size s wv fv av) :
    Calls Tryz.prog 4 #[.agg (stC s wv fv av).toArray] w fun e w' => e = .returned (.bool (muchSt s)) ∧ Below w.heap.size w w' := by
  have HV := Lib.hid (show muchSt s = (muchSn s.win 300 || muchGr s.forest || decide (100 < s.alerts.length)) from rfl)
  have HM1 := Lib.hid (fun W (hw : Below w.heap.size w W) => Much17_any wv s.win 300 W (h.up hw).1)
  have HM2 := Lib.hid (fun W (hw : Below w.heap.size w W) => Much14_any fv s.forest W (h.up hw).2.1)
  obtain ⟨a1, k1, e1, hk1, hk1b, _⟩ := h.1.form
  obtain ⟨a2, k2, e2, _⟩ := h.2.1.form
  obtain ⟨a3, k3, e3, hk3, hk3b, _⟩ := h.2.2
  unfold maxLen at hk3b
  generalize s.win.length = n at *
  generalize s.forest.length = n2 at *
  subst e1 e2 e3
  generalize muchSn s.win 300 = B1 at *
  generalize muchGr s.forest = B2 at *
  generalize s.alerts.length = n3 at *
  generalize muchSt s = R at *
  obtain ⟨⟨c0, c1, c2, c3, c4, c5, c6, c7, c8, c9, c10⟩, count, last, seq, win, forest, alerts⟩ := s
  unfold stC CfM.cfC
  dsimp only [List.cons_append, List.nil_append]
  clear h
  obtain ⟨W, eW⟩ : ∃ W, w.alloc (.cells #[.int .i64 c0, .int .i64 c1, .int .i64 c2, .int .i64 c3, .int .i64 c4, .int .i64 c5, .int .i64 c6, .int .i64 c7, .int .i64 c8, .int .i64 c9, .int .i64 c10, .int .i64 count, .int .i64 last, .int .i64 seq, .slice a1 n k1, .slice a2 n2 k2, .slice a3 n3 k3] 28) = W := ⟨_, rfl⟩
  have HB := Lib.hid (show Below w.heap.size w W by rw [← eW]; exact below_a1 _ _)
  have HCS := Lib.hid (show ∀ W' : World, Below W.heap.size W W' → (W'.cell? ⟨w.heap.size, 14, none⟩ = some (.slice a1 n k1) ∧ W'.cell? ⟨w.heap.size, 15, none⟩ = some (.slice a2 n2 k2) ∧ W'.cell? ⟨w.heap.size, 16, none⟩ = some (.slice a3 n3 k3)) by
    intro W' hb
    subst eW
    refine ⟨keepA hb ?_, keepA hb ?_, keepA hb ?_⟩ <;> go_simp)
  obtain ⟨d14, d15, d16⟩ := HCS.out W (Below.refl _ _)
  go_enter Tryz.func4, Tryz.ntmps4
  go_wp2_with fail
  refine (HM1.out _ HB.out).mono ?_
  rintro e w1 ⟨rfl, rfl⟩
  cases B1
  · go_wp2_with fail
    refine (HM2.out _ HB.out).mono ?_
    rintro e w2 ⟨rfl, hb2⟩
    have HB2 := Lib.hid (bt hb2 HB.out)
    obtain ⟨-, -, e16⟩ := HCS.out w2 hb2
    clear hb2 d14 d15 d16
    cases B2
    · have F := Lib.hid (show R = decide (100 < n3) by rw [HV.out]; rfl)
      by_cases h3 : 100 < n3
      · have h3b : (100 : Int) < (n3 : Int) := by omega
        have F2 := Lib.hid (F.out.trans (decide_eq_true h3))
        go_wp2_with fail
        go_ret
        exact ⟨ret_bool (by rw [F2.out] <;> first | rfl | exact decide_eq_false (by omega) | exact decide_eq_true (by omega)), HB2.out⟩
      · have h3b : ¬ (100 : Int) < (n3 : Int) := by omega
        have F2 := Lib.hid (F.out.trans (decide_eq_false h3))
        go_wp2_with fail
        go_ret
        exact ⟨ret_bool (by rw [F2.out] <;> first | rfl | exact decide_eq_false (by omega) | exact decide_eq_true (by omega)), HB2.out⟩
    · have F := Lib.hid (show R = true by rw [HV.out]; rfl)
      go_wp2_with fail
      go_ret
      exact ⟨ret_bool F.out.symm, HB2.out⟩
  · have F := Lib.hid (show R = true by rw [HV.out]; rfl)
    go_wp2_with fail
    go_ret
    exact ⟨ret_bool F.out.symm, HB.out⟩
theorem much_no {s : St} (h : muchSt s = false) : s.win.length ≤ 300 ∧ (∀ g ∈ s.forest, g.nodes.length ≤ 200) ∧ s.alerts.length ≤ 100 := by
  unfold muchSt at h
  simp only [Bool.or_eq_false_iff] at h
  obtain ⟨⟨h1, h2⟩, h3⟩ := h
  unfold muchSn at h1
  unfold muchGr at h2
  simp only [Bool.or_eq_false_iff] at h1 h2
  refine ⟨by have := of_decide_eq_false h1.1; omega, fun g hg => ?_, by have := of_decide_eq_false h3; omega⟩
  have h4 := List.any_eq_false.1 h2.2 g hg
  unfold muchB at h4
  simp only [Bool.or_eq_true, not_or] at h4
  have := h4.1
  simp at this
  omega
def ERel {α : Type} (a b : List α) (w : World) (i : Value) (wr : World) : Prop := ∃ k : Nat, k ≤ a.length ∧ i = .int .i64 k ∧ a.take k = b.take k ∧ ∃ q, wr = w.drewN q
set_option maxHeartbeats 2000000 in
set_option maxRecDepth 100000 in
theorem RSameI_any (va vb : Value) (a b : List Int) (lo lo' B B' : Nat) (w : World) (h1 : Seq 1 inC w lo B va a) (h2 : Seq 1 inC w lo' B' vb b) :
    Calls Tryz.prog 24 #[va, vb] w fun e w' => e = .returned (.bool (decide (a = b))) ∧ ∃ q, w' = w.drewN q := by
  obtain ⟨A, ca, rfl, hc1, hc2, hr1, _⟩ := h1
  obtain ⟨A2, cb, rfl, hd1, hd2, hr2, _⟩ := h2
  unfold maxLen at hc2 hd2
  have HR := Lib.hid hr1
  have HR2 := Lib.hid hr2
  by_cases hlen : a.length = b.length
  · have H0 := Lib.hid (show ERel a b w (.int .i64 0) w from ⟨0, Nat.zero_le _, rfl, rfl, 0, rfl⟩)
    obtain ⟨n, hn⟩ : ∃ n, a.length = n := ⟨_, rfl⟩
    have hn2 : b.length = n := by omega
    rw [hn] at hc1 ⊢
    rw [hn2] at hd1 ⊢
    have HN := Lib.hid hn
    have HN2 := Lib.hid hn2
    clear hr1 hr2 hlen hn hn2
    go_enter Tryz.func24, Tryz.ntmps24
    go_wp2
    go_loopw [5] (fun i wr => ERel a b w i wr) (fun i _ => n - (intOf i).toNat)
    case atStart => exact H0.out
    case round =>
      obtain ⟨k, hk, rfl, ht, q, rfl⟩ := hrel
      rw [HN.out] at hk
      have HT := Lib.hid ht
      clear ht H0
      by_cases hlt : k < n
      · obtain ⟨ad, x, rfl, hlo, hb, hx, c1⟩ := rdI HR.out (i := k) (by rw [HN.out]; exact hlt)
        obtain ⟨ad2, y, rfl, hlo2, hb2, hy, d1⟩ := rdI HR2.out (i := k) (by rw [HN2.out]; exact hlt)
        have HX := Lib.hid hx
        have HY := Lib.hid hy
        clear hx hy
        by_cases heq : x = y
        · subst heq
          go_wp2
          go_quiet (fail)
          go_wp2
          exact ⟨⟨k + 1, by rw [HN.out]; omega, by go_num, by rw [SeqM.take_next HX.out, SeqM.take_next HY.out, HT.out], _, rfl⟩, by simp [intOf]; omega⟩
        · have F := Lib.hid (show decide (a = b) = false from decide_eq_false (fun e => heq (by have h1 := HX.out; rw [e, HY.out] at h1; exact (Option.some.inj h1).symm)))
          have hb1 : (x != y) = true := by simpa using heq
          clear heq
          go_wp2
          go_quiet (fail)
          go_wp2
          go_ret
          exact ⟨ret_bool F.out.symm, by simp only [World.drewN_drewN]; exact ⟨_, rfl⟩⟩
      · have F := Lib.hid (show decide (a = b) = true from decide_eq_true (by
          have := HT.out
          rw [List.take_of_length_le (by rw [HN.out]; omega), List.take_of_length_le (by rw [HN2.out]; omega)] at this
          exact this))
        go_wp2
        go_ret
        exact ⟨ret_bool F.out.symm, q, rfl⟩
  · have F := Lib.hid (show decide (a = b) = false from decide_eq_false (fun e => hlen (by rw [e])))
    have hne : (a.length == b.length) = false := by simpa using hlen
    clear hlen hr1 hr2
    go_enter Tryz.func24, Tryz.ntmps24
    go_wp2
    go_ret
    exact ⟨ret_bool F.out.symm, 0, rfl⟩
end Go.Proofs.YtcaeihfgdlffkaaGreatRRRRDoor.MucW

/- Two reports that are the same, walked (copseref37.Same). -/
namespace Go.Proofs.YtcaeihfgdlffkaaGreatRRRRDoor.SsrW
set_option linter.unusedVariables false
set_option linter.unusedSimpArgs false
open Go.RowKit Base SeqM StM RptO RptC DevW RtxM OfsW RcsW MucW

set_option maxHeartbeats 4000000 in
set_option maxRecDepth 100000 in
theorem SameR_any (r : Rp) (u1 u2 v1 v2 : Value) (w : World) (h : RpIn w r u1 u2) (h' : RpIn w r v1 v2) :
    Calls Tryz.prog 8 #[.agg #[.int .i64 r.ev, u1, u2], .agg #[.int .i64 r.ev, v1, v2]] w fun e w' => e = .returned (.bool true) ∧ Below w.heap.size w w' := by
  have HS1 := Lib.hid (fun W (hw : Below w.heap.size w W) => SameC_any u1 v1 r.cols W (h.1.up hw) (h'.1.up hw))
  have HS2 := Lib.hid (fun W (hw : Below w.heap.size w W) => (RSameI_any u2 v2 r.levs r.levs 0 0 W.heap.size W.heap.size W (h.2.up hw) (h'.2.up hw)).mono fun e w' hh => (show e = .returned (.bool true) ∧ ∃ q, w' = W.drewN q from ⟨by rw [hh.1, decide_eq_true rfl], hh.2⟩))
  obtain ⟨⟨A1, k1, rfl, hc1, hc1b, _, _⟩, A2, k2, rfl, hc2, hc2b, _, _⟩ := h
  obtain ⟨⟨A3, k3, rfl, hd1, hd1b, _, _⟩, A4, k4, rfl, hd2, hd2b, _, _⟩ := h'
  unfold maxLen at hc1b hc2b hd1b hd2b
  obtain ⟨ev, cols, levs⟩ := r
  dsimp only at HS1 HS2 hc1 hc2 hd1 hd2 ⊢
  generalize cols.length = n at *
  generalize levs.length = m at *
  obtain ⟨W0, eW0⟩ : ∃ W, w.alloc (.cells #[.int .i64 ev, .slice A1 n k1, .slice A2 m k2] 34) = W := ⟨_, rfl⟩
  have HB0 := Lib.hid (show Below w.heap.size w W0 by rw [← eW0]; exact below_a1 _ _)
  have a0 : W0.cell? ⟨w.heap.size, 0, none⟩ = some (.int .i64 ev) := by rw [← eW0]; clear eW0; go_simp
  have a1 : W0.cell? ⟨w.heap.size, 1, none⟩ = some (.slice A1 n k1) := by rw [← eW0]; clear eW0; go_simp
  have a2 : W0.cell? ⟨w.heap.size, 2, none⟩ = some (.slice A2 m k2) := by rw [← eW0]; clear eW0; go_simp
  obtain ⟨W, eW⟩ : ∃ W, W0.alloc (.cells #[.int .i64 ev, .slice A3 n k3, .slice A4 m k4] 34) = W := ⟨_, rfl⟩
  have HBW := Lib.hid (show Below W0.heap.size W0 W by rw [← eW]; exact below_a1 _ _)
  have HB := Lib.hid (bt HBW.out HB0.out)
  have b0 : W.cell? ⟨W0.heap.size, 0, none⟩ = some (.int .i64 ev) := by rw [← eW]; clear eW; go_simp
  have b1 : W.cell? ⟨W0.heap.size, 1, none⟩ = some (.slice A3 n k3) := by rw [← eW]; clear eW; go_simp
  have b2 : W.cell? ⟨W0.heap.size, 2, none⟩ = some (.slice A4 m k4) := by rw [← eW]; clear eW; go_simp
  have c0 := keepA HBW.out a0
  have c1 := keepA HBW.out a1
  have c2 := keepA HBW.out a2
  clear a0 a1 a2
  go_enter Tryz.func8, Tryz.ntmps8
  go_wp2_with fail
  refine (HS1.out _ HB.out).mono ?_
  rintro e w1 ⟨rfl, hb1⟩
  have HB1 := Lib.hid (bt hb1 HB.out)
  have d2 := keepA hb1 c2
  have e2 := keepA hb1 b2
  clear c0 c1 c2 b0 b1 b2 hb1 eW eW0
  go_wp2_with fail
  refine (HS2.out _ HB1.out).mono ?_
  rintro e w2 ⟨rfl, q, rfl⟩
  go_wp2_with fail
  go_ret
  exact ⟨rfl, below_drewN HB1.out q⟩
end Go.Proofs.YtcaeihfgdlffkaaGreatRRRRDoor.SsrW

/- report.Text of a report of nothing. -/
namespace Go.Proofs.YtcaeihfgdlffkaaGreatRRRRDoor.TxtE
set_option linter.unusedVariables false
set_option linter.unusedSimpArgs false
open Go.RowKit Base SeqM RptO LevM OfeW BldW

def evs : List UInt8 := [101, 118, 101, 110, 116, 115, 32, 48, 10]
theorem dec0 : Lib.decDigits 0 = [48] := by
  first | decide +kernel | (rw [Lib.decDigits]; rfl) | simp [Lib.decDigits]
theorem itoa0 (w : World) : Calls Tryz.prog 51 #[.int .i64 0] w fun e w' => e = .returned (.string ⟨#[48]⟩) ∧ w' = w := by
  have h := Tryz.strconv_Itoa_small 0 (by decide) w
  rw [dec0] at h
  exact h
set_option maxHeartbeats 4000000 in
set_option maxRecDepth 100000 in
theorem line0 (B b : Nat) (w : World) (h : Lib.IsBuilder 67 5 B b [] w) (hB : B ≤ w.heap.size) :
    Calls Tryz.prog 25 #[.pointer (some ⟨b, 0, none⟩), .string ⟨#[101, 118, 101, 110, 116, 115]⟩, .int .i64 0, .slice none 0 0] w fun e w' =>
      e = .returned (.tuple #[]) ∧ Lib.IsBuilder 67 5 B b (Lib.byteCells evs) w' ∧ Below B w w' := by
  have H := Lib.hid h
  have HB := Lib.hid hB
  clear h hB
  go_enter Tryz.func25, Tryz.ntmps25
  go_wp2_with fail
  refine (WriteString_any B b [] _ _ H.out (by decide) HB.out).mono ?_
  rintro e w1 ⟨rfl, h1, b1, -⟩
  have H1 := Lib.hid h1
  have B1 := Lib.hid b1
  clear h1 b1
  go_wp2_with fail
  refine (WriteByte_any B b _ _ _ (.inr H1.out) (by decide) (Nat.le_trans HB.out B1.out.size)).mono ?_
  rintro e w2 ⟨rfl, h2, b2, -⟩
  have H2 := Lib.hid h2
  have B2 := Lib.hid (B1.out.trans b2)
  clear h2 b2
  go_wp2_with fail
  refine (itoa0 _).mono ?_
  rintro e w3 ⟨rfl, rfl⟩
  go_wp2_with fail
  refine (WriteString_any B b _ _ _ (.inr H2.out) (by decide) (Nat.le_trans HB.out B2.out.size)).mono ?_
  rintro e w3 ⟨rfl, h3, b3, -⟩
  have H3 := Lib.hid h3
  have B3 := Lib.hid (B2.out.trans b3)
  clear h3 b3
  go_wp2_with fail
  go_loopw [26] (fun i wr => i = .int .i64 0 ∧ w3 = wr) (fun _ _ => 0)
  case atStart => exact ⟨rfl, rfl⟩
  case round =>
    obtain ⟨rfl, rfl⟩ := hrel
    go_wp2_with fail
    refine (WriteByte_any B b _ _ _ (.inr H3.out) (by decide) (Nat.le_trans HB.out B3.out.size)).mono ?_
    rintro e w4 ⟨rfl, h4, b4, -⟩
    have H4 := Lib.hid h4
    have B4 := Lib.hid (B3.out.trans b4)
    clear h4 b4
    go_wp2_with fail
    go_end0
    exact ⟨rfl, .inr H4.out, B4.out⟩
set_option maxHeartbeats 4000000 in
set_option maxRecDepth 100000 in
theorem Text0 (a : Option Addr) (k : Nat) (u2 : Value) (w : World) (h : Seq 1 inC w 0 w.heap.size u2 zeros) :
    Calls Tryz.prog 9 #[.agg #[.int .i64 0, .slice a 0 k, u2]] w fun e w' => e = .returned (.string ⟨evs.toArray⟩) ∧ Below w.heap.size w w' := by
  obtain ⟨A2, k2, rfl, hk1, hk2, hr, _⟩ := h
  unfold maxLen at hk2
  have HR := Lib.hid hr
  have HZL : zeros.length = 11 := rfl
  rw [HZL] at hk1 ⊢
  clear hr
  obtain ⟨W, eW⟩ : ∃ W, w.alloc (.cells #[.int .i64 0, .slice a 0 k, .slice A2 11 k2] 34) = W := ⟨_, rfl⟩
  have HB := Lib.hid (show Below w.heap.size w W by rw [← eW]; exact below_a1 _ _)
  have HCS := Lib.hid (show ∀ W', Below W.heap.size W W' → (W'.cell? ⟨w.heap.size, 0, none⟩ = some (.int .i64 0) ∧ W'.cell? ⟨w.heap.size, 1, none⟩ = some (.slice a 0 k) ∧ W'.cell? ⟨w.heap.size, 2, none⟩ = some (.slice A2 11 k2)) by
    intro W' hb
    subst eW
    refine ⟨keepA hb ?_, keepA hb ?_, keepA hb ?_⟩ <;> go_simp)
  obtain ⟨d0, d1, d2⟩ := HCS.out W (Below.refl _ _)
  have hz : w.heap.size < W.heap.size := by rw [← eW]; simp
  have HBU := Lib.hid (below_a1 W (.cells #[.pointer none, .slice none 0 0] 67))
  go_enter Tryz.func9, Tryz.ntmps9
  go_wp2_with fail
  refine (line0 W.heap.size W.heap.size _ (Lib.fresh_isBuilder 67 5 W) (by simp)).mono ?_
  rintro e w1 ⟨rfl, h1, b1⟩
  have H1 := Lib.hid h1
  have B1 := Lib.hid (show Below W.heap.size W w1 from HBU.out.trans b1)
  clear h1 b1 d0 d1 d2
  obtain ⟨d0, d1, d2⟩ := HCS.out w1 B1.out
  go_wp2_with fail
  go_loopw [19] (fun i wr => i = .int .i64 0 ∧ w1 = wr) (fun _ _ => 0)
  case atStart => exact ⟨rfl, rfl⟩
  case round =>
    obtain ⟨rfl, rfl⟩ := hrel
    go_wp2_with fail
    go_loopw [55] (fun i wr => ∃ j : Nat, j ≤ 11 ∧ i = .int .i64 j ∧ w1 = wr) (fun i _ => 11 - (intOf i).toNat)
    case atStart => exact ⟨0, by omega, rfl, rfl⟩
    case round =>
      obtain ⟨j, hj, rfl, rfl⟩ := hrel
      by_cases hlt : j < 11
      · obtain ⟨ad, x, rfl, _, hbx, hx, c0⟩ := rdI HR.out (i := j) hlt
        replace c0 := ((HB.out.trans (B1.out.mono HB.out.size)).cell (by rw [Base.add_block]; exact hbx)).trans c0
        obtain rfl : x = 0 := by
          unfold zeros at hx
          rw [List.getElem?_replicate, if_pos hlt] at hx
          exact (Option.some.inj hx).symm
        clear hx
        go_wp2
        exact ⟨⟨j + 1, by omega, by go_num, trivial⟩, by simp [intOf]; omega⟩
      · obtain rfl : j = 11 := by omega
        go_wp2_with fail
        refine (Tryz.Builder_String_any W.heap.size W.heap.size evs _ H1.out B1.out.size).mono ?_
        rintro e w2 ⟨rfl, b2⟩
        go_wp2
        go_ret
        exact ⟨rfl, HB.out.trans ((B1.out.trans b2).mono HB.out.size)⟩
end Go.Proofs.YtcaeihfgdlffkaaGreatRRRRDoor.TxtE

/- The usual way to work (copselaw28.Usual), walked; the literal of three vectors. -/
namespace Go.Proofs.YtcaeihfgdlffkaaGreatRRRRDoor.UsuW
set_option linter.unusedVariables false
set_option linter.unusedSimpArgs false
open Go.RowKit Base SeqM CfM VecW SchY

def usual : Cf := ⟨2, 16, 2, 8, 5, 1, 1, 10, 4, 3, 9⟩
theorem usual_ok : confOk usual := by decide
set_option maxHeartbeats 2000000 in
theorem Usual_any (w : World) : Calls Tryz.prog 16 #[] w fun e w' => e = .returned (.agg (cfC usual).toArray) ∧ Below w.heap.size w w' := by
  unfold CfM.cfC usual
  dsimp only
  go_enter Tryz.func16, Tryz.ntmps16
  go_wp2
  refine bodyPost_ret (v := .agg #[.int .i64 2, .int .i64 16, .int .i64 2, .int .i64 8, .int .i64 5, .int .i64 1, .int .i64 1, .int .i64 10, .int .i64 4, .int .i64 3, .int .i64 9]) (by simp [results, Tryz.results16, go_sem, *]) rfl ?_
  exact ⟨rfl, below_a1 _ _⟩
/-- three vectors of one number each -/
def litW (w : World) (a b c : Int) : World := (((w.alloc (.cells #[.int .i64 a] 3)).alloc (.cells #[.int .i64 b] 3)).alloc (.cells #[.int .i64 c] 3)).alloc
  (.cells #[.slice (some ⟨w.heap.size, 0, none⟩) 1 1, .slice (some ⟨w.heap.size + 1, 0, none⟩) 1 1, .slice (some ⟨w.heap.size + 1 + 1, 0, none⟩) 1 1] 32)
theorem vecs_lit3 (w : World) (a b c : Int) : Vecs (litW w a b c) 0 (litW w a b c).heap.size (.slice (some ⟨w.heap.size + 1 + 1 + 1, 0, none⟩) 3 3) [[a], [b], [c]] ∧ Below w.heap.size w (litW w a b c) := by
  obtain ⟨w1, e1⟩ : ∃ w1, w.alloc (.cells #[.int .i64 a] 3) = w1 := ⟨_, rfl⟩
  obtain ⟨w2, e2⟩ : ∃ w2, w1.alloc (.cells #[.int .i64 b] 3) = w2 := ⟨_, rfl⟩
  obtain ⟨w3, e3⟩ : ∃ w3, w2.alloc (.cells #[.int .i64 c] 3) = w3 := ⟨_, rfl⟩
  have s1 := seq_lit w [a] (by simp) (by simp [maxLen]) 3 #[.int .i64 a] rfl
  have s2 := seq_lit w1 [b] (by simp) (by simp [maxLen]) 3 #[.int .i64 b] rfl
  have s3 := seq_lit w2 [c] (by simp) (by simp [maxLen]) 3 #[.int .i64 c] rfl
  have z1 : w1.heap.size = w.heap.size + 1 := by rw [← e1]; simp
  have z2 : w2.heap.size = w.heap.size + 1 + 1 := by rw [← e2]; simp [z1]
  have z3 : w3.heap.size = w.heap.size + 1 + 1 + 1 := by rw [← e3]; simp [z2]
  have b1 : Below w.heap.size w w1 := by rw [← e1]; exact below_a1 _ _
  have b2 : Below w1.heap.size w1 w2 := by rw [← e2]; exact below_a1 _ _
  have b3 : Below w2.heap.size w2 w3 := by rw [← e3]; exact below_a1 _ _
  rw [e1] at s1
  rw [e2] at s2
  rw [e3] at s3
  unfold litW
  rw [e1, e2, e3]
  have b4 := below_a1 w3 (.cells #[.slice (some ⟨w.heap.size, 0, none⟩) 1 1, .slice (some ⟨w.heap.size + 1, 0, none⟩) 1 1, .slice (some ⟨w.heap.size + 1 + 1, 0, none⟩) 1 1] 32)
  refine ⟨⟨[(.slice (some ⟨w.heap.size, 0, none⟩) 1 1, [a]), (.slice (some ⟨w.heap.size + 1, 0, none⟩) 1 1, [b]), (.slice (some ⟨w.heap.size + 1 + 1, 0, none⟩) 1 1, [c])], rfl, ?_, ?_⟩, bt b4 (bt b3 (bt b2 b1))⟩
  · refine Seq.of_own (e := 32) ⟨rfl, .inr ⟨w.heap.size + 1 + 1 + 1, 3, #[.slice (some ⟨w.heap.size, 0, none⟩) 1 1, .slice (some ⟨w.heap.size + 1, 0, none⟩) 1 1, .slice (some ⟨w.heap.size + 1 + 1, 0, none⟩) 1 1], rfl, Nat.zero_le _, ?_, Nat.le_refl _, by unfold maxLen; omega, rfl, rfl⟩⟩
    rw [← z3]
    exact heap_alloc_new w3 _
  · intro r hr
    rw [z1] at s2
    rw [z2] at s3
    rcases List.mem_cons.1 hr with rfl | hr
    · exact ((s1.up b2).up b3).up b4
    · rcases List.mem_cons.1 hr with rfl | hr
      · exact (s2.up b3).up b4
      · obtain rfl := List.mem_singleton.1 hr
        exact s3.up b4
end Go.Proofs.YtcaeihfgdlffkaaGreatRRRRDoor.UsuW

/- lives, walked: what comes of every program (copselaw37). -/
namespace Go.Proofs.YtcaeihfgdlffkaaGreatRRRRDoor.LvsW
set_option linter.unusedVariables false
set_option linter.unusedSimpArgs false
open Go.RowKit Base SeqM CfM VecW SchY RptM RptO RptC ScoX DevW ColW ClsW LevM LevW StaE OfeW TxtE UsuW

theorem lit_cols : colsL [[1], [5], [3]] 1 = [⟨1, 5, 3, 9, 24⟩] ∧ colsE [[1], [5], [3]] 1 = 0 := ⟨by kernel_rfl, by kernel_rfl⟩
theorem lit_dev : devV 24 3 = 1 ∧ devE 24 3 = 0 := ⟨by kernel_rfl, by kernel_rfl⟩
theorem lit_lev : levL [(0, 1)] 8 = [0, 0, 0, 0, 0, 0, 0, 0, 0, 0, 1] ∧ levE [(0, 1)] 8 = 0 := ⟨by kernel_rfl, by kernel_rfl⟩
theorem lit_words : hiW 24 = 0 ∧ loW 24 = 24 := by decide
theorem row_cells {w : World} {base k n : Nat} {e : TypeId} {v : Value} {xs : List Value} (h : w.ownsRow base e k v n xs) (hn : 0 < n) : ∃ g cap, v = .slice (some ⟨g, 0, none⟩) n cap ∧ ∀ j u, xs[j]? = some u → w.cell? ⟨g, j, none⟩ = some u := by
  rcases h.2 with ⟨hv, h0⟩ | ⟨g, cap, cur, hv, hb, hg, hc, hm, hcur, hx⟩
  · omega
  · refine ⟨g, cap, hv, fun j u hu => ?_⟩
    have h1 : cur.toList[j]? = some u := by
      rw [← hx, List.getElem?_take] at hu
      split at hu
      · exact hu
      · cases hu
    have h2 : cur[j]? = some u := by rw [← Array.getElem?_toList]; exact h1
    simp [World.cell?, hg, h2]
set_option maxHeartbeats 8000000 in
set_option maxRecDepth 100000 in
theorem lives_any (w : World) : Calls Tryz.prog 5 #[] w fun e w' => e = .returned (.bool true) ∧ Below w.heap.size w w' := by
  have HV3 := Lib.hid (vecs_lit3 w 1 5 3)
  have HC1 := Lib.hid (Columns_any (.slice (some ⟨w.heap.size + 1 + 1 + 1, 0, none⟩) 3 3) [[1], [5], [3]] 1 0 _ HV3.out.1)
  have HLW := Lib.hid (show litW w 1 5 3 = litW w 1 5 3 from rfl)
  unfold ClPost at HC1
  rw [lit_cols.1, lit_cols.2] at HC1
  have HDV := Lib.hid (fun W => Dev_any ⟨1, 5, 3, 9, 24⟩ 3 (by unfold Spr; decide) (by omega) W)
  unfold CV colC at HDV
  dsimp only at HDV
  rw [lit_dev.1, lit_dev.2, lit_words.1, lit_words.2] at HDV
  have HLV := Lib.hid (fun v W h => Levels_any v [(0, 1)] 8 W h (by intro x hx; obtain rfl := List.mem_singleton.1 hx; unfold Fit; decide))
  unfold LvPost at HLV
  rw [lit_lev.1, lit_lev.2] at HLV
  have HOF := Lib.hid (fun W => Of0 usual usual_ok W)
  unfold OfPost st0C CfM.cfC usual at HOF
  dsimp only [List.cons_append, List.nil_append] at HOF
  have HUS := Lib.hid (fun W => Usual_any W)
  unfold CfM.cfC usual at HUS
  dsimp only at HUS
  have HC2 := Lib.hid (fun W => Columns_any (.slice none 0 0) [] 1 0 W (vecs_nil _ _ _))
  unfold ClPost at HC2
  rw [(cols0 1).1, (cols0 1).2] at HC2
  unfold litW at HV3 HC1
  go_enter Tryz.func5, Tryz.ntmps5
  go_wp2_with fail
  refine HC1.out.mono ?_
  rintro e w1 ⟨⟨u1, rfl, hu1⟩, hb1⟩
  have HB1 := Lib.hid (bt hb1 HV3.out.2)
  obtain ⟨g, cap, rfl, hcell⟩ := row_cells hu1 (by decide)
  have HG := Lib.hid (show ∀ W, Below w1.heap.size w1 W → (W.cell? ⟨g, 0, none⟩ = some (.int .i64 1) ∧ W.cell? ⟨g, 1, none⟩ = some (.int .i64 5) ∧ W.cell? ⟨g, 2, none⟩ = some (.int .i64 3) ∧ W.cell? ⟨g, 3, none⟩ = some (.int .i64 9) ∧ W.cell? ⟨g, 4, none⟩ = some (.int .u64 0) ∧ W.cell? ⟨g, 5, none⟩ = some (.int .u64 24)) from
    fun W hb => ⟨keepA hb (hcell 0 _ rfl), keepA hb (hcell 1 _ rfl), keepA hb (hcell 2 _ rfl), keepA hb (hcell 3 _ rfl), keepA hb (hcell 4 _ rfl), keepA hb (hcell 5 _ rfl)⟩)
  clear hu1 hb1 hcell HV3 HC1 HLW
  obtain ⟨c0, c1, c2, c3, c4, c5⟩ := HG.out w1 (Below.refl _ _)
  rw [show ([⟨1, 5, 3, 9, 24⟩] : List Col).length = 1 from rfl]
  go_wp2_with fail
  refine (HDV.out _).mono ?_
  rintro e w2 ⟨rfl, hb2⟩
  have HB2 := Lib.hid hb2
  clear hb2 c0 c1 c2 c3 c4 c5
  go_wp2_with fail
  refine (HLV.out _ _ (Seq.of_own (base := w2.heap.size) (f := scC) (l := [(0, 1)]) (own_one w2 #[.int .i64 0, .int .i64 1] _ 2 rfl) |>.more (Nat.zero_le _) (Nat.le_refl _))).mono ?_
  rintro e w3 ⟨⟨u2, rfl, hu2⟩, hb3⟩
  have HB3 := Lib.hid (bt hb3 (bt (below_a1 w2 (.cells #[.int .i64 0, .int .i64 1] 55)) HB2.out))
  obtain ⟨A2, k2, rfl, hk1, hk2, hr2, _⟩ := hu2
  obtain ⟨ad, x, rfl, -, hbx, hx, hx0⟩ := rdI hr2 (i := 10) (by decide)
  obtain rfl : (1 : Int) = x := by simpa using hx
  have HL := Lib.hid hx0
  have hk3 : 11 ≤ k2 := hk1
  have hk4 : k2 ≤ 9223372036854775807 := by unfold maxLen at hk2; omega
  clear hb3 hk1 hk2 hr2 hx hx0
  rw [show ([0, 0, 0, 0, 0, 0, 0, 0, 0, 0, 1] : List Int).length = 11 from rfl]
  go_wp2_with fail
  refine (HUS.out _).mono ?_
  rintro e w4 ⟨rfl, hb4⟩
  have HB4 := Lib.hid (bt hb4 HB3.out)
  replace HL := Lib.hid (keepA hb4 HL.out)
  clear hb4
  go_wp2_with fail
  refine (HOF.out _).mono ?_
  rintro e w5 ⟨⟨a, k, u3, rfl, hu3⟩, hb5⟩
  have HB5 := Lib.hid (bt hb5 HB4.out)
  replace HL := Lib.hid (keepA hb5 HL.out)
  have HU3 := Lib.hid hu3
  obtain ⟨A3, k3, rfl, hk5, hk6, hr3, _⟩ := hu3
  have hk7 : k3 ≤ 9223372036854775807 := by unfold maxLen at hk6; omega
  clear hb5 hr3 hk6
  rw [show (zeros : List Int).length = 11 from rfl] at HU3 hk5 ⊢
  have HX0 := Lib.hid (And.intro (show (w5.alloc (.cells #[.int .i64 0, .slice a 0 k, .slice A3 11 k3] 34)).cell? ⟨w5.heap.size, 0, none⟩ = some (.int .i64 0) by go_simp) (And.intro (show (w5.alloc (.cells #[.int .i64 0, .slice a 0 k, .slice A3 11 k3] 34)).cell? ⟨w5.heap.size, 1, none⟩ = some (.slice a 0 k) by go_simp) (show (w5.alloc (.cells #[.int .i64 0, .slice a 0 k, .slice A3 11 k3] 34)).cell? ⟨w5.heap.size, 2, none⟩ = some (.slice A3 11 k3) by go_simp)))
  go_wp2_with fail
  refine (HC2.out _).mono ?_
  rintro e w6 ⟨⟨u4, rfl, hu4⟩, hb6⟩
  obtain ⟨a4, k4, rfl⟩ := row_form hu4
  have hb56 := bt hb6 (below_a1 w5 (.cells #[.int .i64 0, .slice a 0 k, .slice A3 11 k3] 34))
  have HB6 := Lib.hid (show Below w1.heap.size w1 w6 from bt hb56 HB5.out)
  have hl10 := keepA hb56 HL.out
  have hl10b : w6.cell? ⟨ad.block, ad.off + 10, none⟩ = some (.int .i64 1) := hl10
  have HT := Lib.hid (Text0 a k (.slice A3 11 k3) w6 (HU3.out.up hb56))
  have x0 := keepA hb6 HX0.out.1
  have x1 := keepA hb6 HX0.out.2.1
  have x2 := keepA hb6 HX0.out.2.2
  obtain ⟨c0, c1, c2, c3, c4, c5⟩ := HG.out w6 HB6.out
  clear hb6 hb56 hu4 HX0
  rw [show ([] : List Col).length = 0 from rfl]
  go_wp2_with fail
  refine HT.out.mono ?_
  rintro e w7 ⟨rfl, hb7⟩
  have HB7 := Lib.hid (bt hb7 (bt HB6.out HB1.out))
  clear hb7
  go_wp2_with fail
  go_ret
  exact ⟨rfl, HB7.out⟩
end Go.Proofs.YtcaeihfgdlffkaaGreatRRRRDoor.LvsW
