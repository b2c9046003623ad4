/- script's reader: what a crash keeps, a way to work, things (printed by mkreader.py). -/
import Derived.Test.YtchgfabgighbfaaGreatDoorRdsW
import Derived.Test.YtchgfabgighbfaaGreatDoorScrS
import Derived.Test.YtchgfabgighbfaaGreatDoorLinV
namespace Go.Proofs.YtchgfabgighbfaaGreatDoor.RdkW
set_option linter.unusedVariables false
open Go.RowKit Base SeqM ScrM ScrP ScrR ScrS TxtM GlbD FmtW RdsW EqlW

theorem own_kr {rb : Nat} {W W1 : World} (hk : KR rb W W1) {ws : List Wd} {ok : Bool} (hr : RdA W rb ws ok) {base : Nat} {e : TypeId} (he : e ≠ 92) {size n : Nat} {v : Value} {xs : List Value} (h : W.ownsRow base e size v n xs) : W1.ownsRow base e size v n xs :=
  own_keep h fun k hkl ht => hk.2 k hkl (fun e2 => by
    subst e2
    obtain ⟨u, hu, _⟩ := hr
    exact he (ht.eq ⟨_, _, hu⟩))
theorem toL (l : List UInt8) : (⟨l.toArray⟩ : ByteArray).data.toList = l := by simp
def slLen : Value → Nat
  | .slice _ n _ => n
  | _ => 0
theorem one_kept_yes {a r : Wd} (h58 : (58 : UInt8) ∉ a) {ok ok1 ok2 : Bool} {n1 n2 : Int} (h1 : One Lib.itoa I64 a ok n1 ok1) (h2 : One Lib.itoa I64 r ok1 n2 ok2) : One keptW I2 (a ++ 58 :: r) ok (n1, n2) ok2 := by
  refine ⟨fun h => ?_, fun h0 y hv e => ?_⟩
  · obtain ⟨e1, e2, v2⟩ := h2.sound h
    obtain ⟨e0, e3, v1⟩ := h1.sound e1
    exact ⟨e0, by rw [e2, e3]; rfl, v1, v2⟩
  · have hc := cut_one_yes (r := r) h58
    have hy : (58 : UInt8) ∉ Lib.itoa y.1 := itoa_no _ (by decide) (by decide)
    rw [e] at hc
    unfold keptW at hc
    rw [cut_one_yes hy] at hc
    simp only [Prod.mk.injEq, and_true] at hc
    obtain ⟨k1, e1⟩ := h1.full h0 y.1 hv.1 hc.1.symm
    obtain ⟨k2, e2⟩ := h2.full k1 y.2 hv.2 hc.2.symm
    exact ⟨k2, by rw [e1, e2]⟩
theorem one_kept_no {w : Wd} (h58 : (58 : UInt8) ∉ w) {ok ok1 ok2 : Bool} {n1 n2 : Int} (h2 : One Lib.itoa I64 [] ok1 n2 ok2) : One keptW I2 w ok (n1, n2) ok2 := by
  refine ⟨fun h => ?_, fun h0 y hv e => ?_⟩
  · obtain ⟨_, e2, _⟩ := h2.sound h
    exact absurd e2.symm (itoa_ne n2)
  · exact absurd (by rw [e]; simp [keptW]) h58
def KptPost (w0 w : World) (rb : Nat) (ws : List Wd) (ok : Bool) (e : Ending) (w' : World) : Prop := ∃ a b ok', e = .returned (.agg #[.int .i64 a, .int .i64 b]) ∧ RSt w0 rb ws.tail ok' w' ∧ KR rb w w' ∧ Rds (fun x => [keptW x]) I2 ws ok (a, b) ws.tail ok'
set_option maxHeartbeats 4000000 in
set_option maxRecDepth 100000 in
theorem kept_any {w0 w : World} (hG : G w0) {rb : Nat} {ws : List Wd} {ok : Bool} (hl : ∀ x ∈ ws, x.length ≤ 1000000) (h : RSt w0 rb ws ok w) :
    Calls Tryz.prog 58 #[.pointer (some ⟨rb, 0, none⟩)] w (KptPost w0 w rb ws ok) := by
  have HG := Lib.hid hG
  have hlt := h.rd.lt
  have HA := Lib.hid (h.free (below_a1 w (.cells #[.int .i64 0, .int .i64 0] 46)))
  have HKA := Lib.hid (KR.of_below (rb := rb) (below_a1 w (.cells #[.int .i64 0, .int .i64 0] 46)) (Nat.le_of_lt hlt))
  have HCA := Lib.hid (heap_alloc_new w (.cells #[.int .i64 0, .int .i64 0] 46))
  have hwl := next_len hl
  clear h hG hl
  go_enter Tryz.func58, Tryz.ntmps58
  go_wp2_with fail
  obtain ⟨wa, hwa⟩ : ∃ wa, w.alloc (.cells #[.int .i64 0, .int .i64 0] 46) = wa := ⟨_, rfl⟩
  rw [hwa] at HA HKA HCA ⊢
  clear hwa
  refine (next_any HA.out).mono ?_
  rintro e W1 ⟨rfl, h1, hk1⟩
  have H1 := Lib.hid h1
  have HC1 := Lib.hid (hk1.cells (k := w.heap.size) (by omega) HCA.out)
  have HK1 := Lib.hid (HKA.out.trans hk1)
  obtain ⟨m, hm⟩ := (h1.G HG.out).mx
  have HM := Lib.hid hm
  obtain ⟨wd, hwd⟩ : ∃ wd, nextW ws = wd := ⟨_, rfl⟩
  obtain ⟨ok0, hok⟩ : ∃ ok0, nextOk ws ok = ok0 := ⟨_, rfl⟩
  rw [hwd] at hwl ⊢
  rw [hok] at H1
  have HWD := Lib.hid (And.intro hwd hok)
  clear h1 hk1 hm hwd hok
  go_wp2_with fail
  refine (Tryz.strings_Cut ⟨wd.toArray⟩ ⟨#[58]⟩ m W1 (by show wd.toArray.size < _; simp; omega) HM.out).mono ?_
  rintro e W2 ⟨rfl, q, rfl⟩
  rw [toL, show (⟨#[58]⟩ : ByteArray).data.toList = [58] from rfl]
  have H2 := Lib.hid (show RSt w0 rb ws.tail ok0 (W1.drewN q) from H1.out.free (below_drewN (Below.refl _ _) q))
  have HK2 := Lib.hid (HK1.out.trans (KR.of_below (below_drewN (Below.refl _ _) q) (Nat.le_of_lt H1.out.rd.lt)))
  have HC2 := Lib.hid (show (W1.drewN q).heap[w.heap.size]? = _ from HC1.out)
  clear HM m
  by_cases h58 : (58 : UInt8) ∈ wd
  · obtain ⟨a, r, rfl, ha⟩ : ∃ a r, wd = a ++ 58 :: r ∧ (58 : UInt8) ∉ a := by
      rcases idx_one 58 wd with ⟨_, h⟩ | ⟨a, r, e, h, _⟩
      · exact absurd h58 h
      · exact ⟨a, r, e, h⟩
    rw [cut_one_yes ha]
    have hla : a.length ≤ 1000000 := by simp at hwl; omega
    have hlr : r.length ≤ 1000000 := by simp at hwl; omega
    have H58 := Lib.hid ha
    clear ha h58 hwl
    dsimp only
    go_wp2_with fail
    refine (number_any HG.out a hla H2.out).mono ?_
    rintro e W3 ⟨n1, ok1, rfl, h3, hk3, ho3⟩
    have H3 := Lib.hid h3
    have HK3 := Lib.hid (HK2.out.trans hk3)
    have HC3 := Lib.hid (hk3.cells (k := w.heap.size) (by omega) HC2.out)
    have HO3 := Lib.hid ho3
    clear h3 hk3 ho3
    go_wp2_with fail
    refine (number_any HG.out (r : Wd) hlr H3.out).mono ?_
    rintro e W4 ⟨n2, ok2, rfl, h4, hk4, ho4⟩
    have H4 := Lib.hid h4
    have HK4 := Lib.hid (HK3.out.trans hk4)
    have HO4 := Lib.hid ho4
    have hc4 := hk4.cells (k := w.heap.size) (by omega) HC3.out
    have k0 := cell_heap hc4 (o := 0) rfl
    have k1 := cell_heap hc4 (o := 1) rfl
    have kf := free_heap hc4
    have lz := (Array.getElem?_eq_some_iff.1 hc4).1
    clear h4 hk4 ho4 hc4
    go_wp2_with fail
    refine bodyPost_ret (v := .agg #[.int .i64 n1, .int .i64 n2]) (by simp only [results]; go_simp) rfl ?_
    have hrd := (HWD.out.1 ▸ HWD.out.2 ▸ one_kept_yes H58.out HO3.out HO4.out : One keptW I2 (nextW ws) (nextOk ws ok) (n1, n2) ok2)
    exact ⟨n1, n2, ok2, rfl, (H4.out.other hlt 0 _).other hlt 1 _, (HK4.out.other hlt (Nat.le_refl _) 0 _).other hlt (Nat.le_refl _) 1 _, hrd.rds⟩
  · rw [cut_one_no h58]
    have hla : wd.length ≤ 1000000 := hwl
    have hlr : ([] : Wd).length ≤ 1000000 := by simp
    have H58 := Lib.hid h58
    clear h58 hwl
    dsimp only
    go_wp2_with fail
    refine (number_any HG.out wd hla H2.out).mono ?_
    rintro e W3 ⟨n1, ok1, rfl, h3, hk3, ho3⟩
    have H3 := Lib.hid h3
    have HK3 := Lib.hid (HK2.out.trans hk3)
    have HC3 := Lib.hid (hk3.cells (k := w.heap.size) (by omega) HC2.out)
    have HO3 := Lib.hid ho3
    clear h3 hk3 ho3
    go_wp2_with fail
    refine (number_any HG.out ([] : Wd) hlr H3.out).mono ?_
    rintro e W4 ⟨n2, ok2, rfl, h4, hk4, ho4⟩
    have H4 := Lib.hid h4
    have HK4 := Lib.hid (HK3.out.trans hk4)
    have HO4 := Lib.hid ho4
    have hc4 := hk4.cells (k := w.heap.size) (by omega) HC3.out
    have k0 := cell_heap hc4 (o := 0) rfl
    have k1 := cell_heap hc4 (o := 1) rfl
    have kf := free_heap hc4
    have lz := (Array.getElem?_eq_some_iff.1 hc4).1
    clear h4 hk4 ho4 hc4
    go_wp2_with fail
    refine bodyPost_ret (v := .agg #[.int .i64 n1, .int .i64 n2]) (by simp only [results]; go_simp) rfl ?_
    have hrd := (HWD.out.1 ▸ HWD.out.2 ▸ one_kept_no H58.out HO4.out : One keptW I2 (nextW ws) (nextOk ws ok) (n1, n2) ok2)
    exact ⟨n1, n2, ok2, rfl, (H4.out.other hlt 0 _).other hlt 1 _, (HK4.out.other hlt (Nat.le_refl _) 0 _).other hlt (Nat.le_refl _) 1 _, hrd.rds⟩
def CfPost (w0 w : World) (rb : Nat) (ws : List Wd) (ok : Bool) (e : Ending) (w' : World) : Prop := ∃ (c : Cf) (ok' : Bool) (ws' : List Wd), e = .returned (.agg (LinV.cfC c).toArray) ∧ RSt w0 rb ws' ok' w' ∧ KR rb w w' ∧ Rds cfE cfV ws ok c ws' ok'
theorem tail_len {ws : List Wd} (h : ∀ x ∈ ws, x.length ≤ 1000000) : ∀ x ∈ ws.tail, x.length ≤ 1000000 := fun x hx => h x (List.mem_of_mem_tail hx)
set_option maxHeartbeats 8000000 in
set_option maxRecDepth 100000 in
theorem conf_any {w0 w : World} (hG : G w0) {rb : Nat} {ws : List Wd} {ok : Bool} (hl : ∀ x ∈ ws, x.length ≤ 1000000) (h : RSt w0 rb ws ok w) :
    Calls Tryz.prog 54 #[.pointer (some ⟨rb, 0, none⟩)] w (CfPost w0 w rb ws ok) := by
  have hmf : ∀ (fn : Fn) (first cap : Array Value) (w : World), (Instr.makeFunc fn first cap).run Tryz.prog w = .ok (.func fn first cap) w := fun _ _ _ _ => rfl
  have HG := Lib.hid hG
  have hlt := h.rd.lt
  have HA := Lib.hid (h.free (below_a1 w (.cells #[.int .i64 0, .int .i64 0, .int .i64 0, .int .i64 0, .int .i64 0, .int .i64 0, .int .i64 0, .int .i64 0, .int .i64 0, .int .i64 0, .int .i64 0] 24)))
  have HKA := Lib.hid (KR.of_below (rb := rb) (below_a1 w (.cells #[.int .i64 0, .int .i64 0, .int .i64 0, .int .i64 0, .int .i64 0, .int .i64 0, .int .i64 0, .int .i64 0, .int .i64 0, .int .i64 0, .int .i64 0] 24)) (Nat.le_of_lt hlt))
  have HCA := Lib.hid (heap_alloc_new w (.cells #[.int .i64 0, .int .i64 0, .int .i64 0, .int .i64 0, .int .i64 0, .int .i64 0, .int .i64 0, .int .i64 0, .int .i64 0, .int .i64 0, .int .i64 0] 24))
  have HL := Lib.hid hl
  clear h hG hl
  go_enter Tryz.func54, Tryz.ntmps54
  go_wp2_with fail
  obtain ⟨wa, hwa⟩ : ∃ wa, w.alloc (.cells #[.int .i64 0, .int .i64 0, .int .i64 0, .int .i64 0, .int .i64 0, .int .i64 0, .int .i64 0, .int .i64 0, .int .i64 0, .int .i64 0, .int .i64 0] 24) = wa := ⟨_, rfl⟩
  rw [hwa] at HA HKA HCA ⊢
  clear hwa
  refine (int_any HG.out HL.out HA.out).mono ?_
  rintro e W0 ⟨n0, ok0, rfl, h0, hk0, hr0⟩
  obtain ⟨ws0, hws0⟩ : ∃ ws0, List.tail ws = ws0 := ⟨_, rfl⟩
  rw [hws0] at h0 hr0
  have HL0 := Lib.hid (show ∀ x ∈ ws0, x.length ≤ 1000000 from hws0 ▸ tail_len HL.out)
  have H0 := Lib.hid h0
  have HK0 := Lib.hid (HKA.out.trans hk0)
  have HC0 := Lib.hid (hk0.cells (k := w.heap.size) (by omega) HCA.out)
  have HR0 := Lib.hid hr0
  clear h0 hk0 hr0 hws0
  go_wp2_with fail
  refine (int_any HG.out HL0.out H0.out).mono ?_
  rintro e W1 ⟨n1, ok1, rfl, h1, hk1, hr1⟩
  obtain ⟨ws1, hws1⟩ : ∃ ws1, List.tail ws0 = ws1 := ⟨_, rfl⟩
  rw [hws1] at h1 hr1
  have HL1 := Lib.hid (show ∀ x ∈ ws1, x.length ≤ 1000000 from hws1 ▸ tail_len HL0.out)
  have H1 := Lib.hid h1
  have HK1 := Lib.hid (HK0.out.trans hk1)
  have HC1 := Lib.hid (hk1.cells (k := w.heap.size) (by omega) HC0.out)
  have HR1 := Lib.hid hr1
  clear h1 hk1 hr1 hws1
  go_wp2_with fail
  refine (int_any HG.out HL1.out H1.out).mono ?_
  rintro e W2 ⟨n2, ok2, rfl, h2, hk2, hr2⟩
  obtain ⟨ws2, hws2⟩ : ∃ ws2, List.tail ws1 = ws2 := ⟨_, rfl⟩
  rw [hws2] at h2 hr2
  have HL2 := Lib.hid (show ∀ x ∈ ws2, x.length ≤ 1000000 from hws2 ▸ tail_len HL1.out)
  have H2 := Lib.hid h2
  have HK2 := Lib.hid (HK1.out.trans hk2)
  have HC2 := Lib.hid (hk2.cells (k := w.heap.size) (by omega) HC1.out)
  have HR2 := Lib.hid hr2
  clear h2 hk2 hr2 hws2
  go_wp2_with fail
  refine (int_any HG.out HL2.out H2.out).mono ?_
  rintro e W3 ⟨n3, ok3, rfl, h3, hk3, hr3⟩
  obtain ⟨ws3, hws3⟩ : ∃ ws3, List.tail ws2 = ws3 := ⟨_, rfl⟩
  rw [hws3] at h3 hr3
  have HL3 := Lib.hid (show ∀ x ∈ ws3, x.length ≤ 1000000 from hws3 ▸ tail_len HL2.out)
  have H3 := Lib.hid h3
  have HK3 := Lib.hid (HK2.out.trans hk3)
  have HC3 := Lib.hid (hk3.cells (k := w.heap.size) (by omega) HC2.out)
  have HR3 := Lib.hid hr3
  clear h3 hk3 hr3 hws3
  go_wp2_with fail
  refine (int_any HG.out HL3.out H3.out).mono ?_
  rintro e W4 ⟨n4, ok4, rfl, h4, hk4, hr4⟩
  obtain ⟨ws4, hws4⟩ : ∃ ws4, List.tail ws3 = ws4 := ⟨_, rfl⟩
  rw [hws4] at h4 hr4
  have HL4 := Lib.hid (show ∀ x ∈ ws4, x.length ≤ 1000000 from hws4 ▸ tail_len HL3.out)
  have H4 := Lib.hid h4
  have HK4 := Lib.hid (HK3.out.trans hk4)
  have HC4 := Lib.hid (hk4.cells (k := w.heap.size) (by omega) HC3.out)
  have HR4 := Lib.hid hr4
  clear h4 hk4 hr4 hws4
  go_wp2_with fail
  refine (int_any HG.out HL4.out H4.out).mono ?_
  rintro e W5 ⟨n5, ok5, rfl, h5, hk5, hr5⟩
  obtain ⟨ws5, hws5⟩ : ∃ ws5, List.tail ws4 = ws5 := ⟨_, rfl⟩
  rw [hws5] at h5 hr5
  have HL5 := Lib.hid (show ∀ x ∈ ws5, x.length ≤ 1000000 from hws5 ▸ tail_len HL4.out)
  have H5 := Lib.hid h5
  have HK5 := Lib.hid (HK4.out.trans hk5)
  have HC5 := Lib.hid (hk5.cells (k := w.heap.size) (by omega) HC4.out)
  have HR5 := Lib.hid hr5
  clear h5 hk5 hr5 hws5
  go_wp2_with fail
  refine (int_any HG.out HL5.out H5.out).mono ?_
  rintro e W6 ⟨n6, ok6, rfl, h6, hk6, hr6⟩
  obtain ⟨ws6, hws6⟩ : ∃ ws6, List.tail ws5 = ws6 := ⟨_, rfl⟩
  rw [hws6] at h6 hr6
  have HL6 := Lib.hid (show ∀ x ∈ ws6, x.length ≤ 1000000 from hws6 ▸ tail_len HL5.out)
  have H6 := Lib.hid h6
  have HK6 := Lib.hid (HK5.out.trans hk6)
  have HC6 := Lib.hid (hk6.cells (k := w.heap.size) (by omega) HC5.out)
  have HR6 := Lib.hid hr6
  clear h6 hk6 hr6 hws6
  go_wp2_with fail
  refine (int_any HG.out HL6.out H6.out).mono ?_
  rintro e W7 ⟨n7, ok7, rfl, h7, hk7, hr7⟩
  obtain ⟨ws7, hws7⟩ : ∃ ws7, List.tail ws6 = ws7 := ⟨_, rfl⟩
  rw [hws7] at h7 hr7
  have HL7 := Lib.hid (show ∀ x ∈ ws7, x.length ≤ 1000000 from hws7 ▸ tail_len HL6.out)
  have H7 := Lib.hid h7
  have HK7 := Lib.hid (HK6.out.trans hk7)
  have HC7 := Lib.hid (hk7.cells (k := w.heap.size) (by omega) HC6.out)
  have HR7 := Lib.hid hr7
  clear h7 hk7 hr7 hws7
  go_wp2_with fail
  refine (int_any HG.out HL7.out H7.out).mono ?_
  rintro e W8 ⟨n8, ok8, rfl, h8, hk8, hr8⟩
  obtain ⟨ws8, hws8⟩ : ∃ ws8, List.tail ws7 = ws8 := ⟨_, rfl⟩
  rw [hws8] at h8 hr8
  have HL8 := Lib.hid (show ∀ x ∈ ws8, x.length ≤ 1000000 from hws8 ▸ tail_len HL7.out)
  have H8 := Lib.hid h8
  have HK8 := Lib.hid (HK7.out.trans hk8)
  have HC8 := Lib.hid (hk8.cells (k := w.heap.size) (by omega) HC7.out)
  have HR8 := Lib.hid hr8
  clear h8 hk8 hr8 hws8
  go_wp2_with fail
  refine (int_any HG.out HL8.out H8.out).mono ?_
  rintro e W9 ⟨n9, ok9, rfl, h9, hk9, hr9⟩
  obtain ⟨ws9, hws9⟩ : ∃ ws9, List.tail ws8 = ws9 := ⟨_, rfl⟩
  rw [hws9] at h9 hr9
  have HL9 := Lib.hid (show ∀ x ∈ ws9, x.length ≤ 1000000 from hws9 ▸ tail_len HL8.out)
  have H9 := Lib.hid h9
  have HK9 := Lib.hid (HK8.out.trans hk9)
  have HC9 := Lib.hid (hk9.cells (k := w.heap.size) (by omega) HC8.out)
  have HR9 := Lib.hid hr9
  clear h9 hk9 hr9 hws9
  go_wp2_with fail
  refine (int_any HG.out HL9.out H9.out).mono ?_
  rintro e W10 ⟨n10, ok10, rfl, h10, hk10, hr10⟩
  obtain ⟨ws10, hws10⟩ : ∃ ws10, List.tail ws9 = ws10 := ⟨_, rfl⟩
  rw [hws10] at h10 hr10
  have HL10 := Lib.hid (show ∀ x ∈ ws10, x.length ≤ 1000000 from hws10 ▸ tail_len HL9.out)
  have H10 := Lib.hid h10
  have HK10 := Lib.hid (HK9.out.trans hk10)
  have HC10 := Lib.hid (hk10.cells (k := w.heap.size) (by omega) HC9.out)
  have HR10 := Lib.hid hr10
  have hc4 := HC10.out
  have k0 := cell_heap hc4 (o := 0) rfl
  have k1 := cell_heap hc4 (o := 1) rfl
  have k2 := cell_heap hc4 (o := 2) rfl
  have k3 := cell_heap hc4 (o := 3) rfl
  have k4 := cell_heap hc4 (o := 4) rfl
  have k5 := cell_heap hc4 (o := 5) rfl
  have k6 := cell_heap hc4 (o := 6) rfl
  have k7 := cell_heap hc4 (o := 7) rfl
  have k8 := cell_heap hc4 (o := 8) rfl
  have k9 := cell_heap hc4 (o := 9) rfl
  have k10 := cell_heap hc4 (o := 10) rfl
  have kf := free_heap hc4
  have lz := (Array.getElem?_eq_some_iff.1 hc4).1
  clear hc4 h10 hk10 hr10 hws10
  go_wp2_with fail
  refine bodyPost_ret (v := .agg #[.int .i64 n0, .int .i64 n1, .int .i64 n2, .int .i64 n3, .int .i64 n4, .int .i64 n5, .int .i64 n6, .int .i64 n7, .int .i64 n8, .int .i64 n9, .int .i64 n10]) (by simp only [results]; go_simp) rfl ?_
  have hr := ((((((((((HR0.out.seq HR1.out).seq HR2.out).seq HR3.out).seq HR4.out).seq HR5.out).seq HR6.out).seq HR7.out).seq HR8.out).seq HR9.out).seq HR10.out)
  have hm := hr.map (f := fun p => (⟨p.1.1.1.1.1.1.1.1.1.1, p.1.1.1.1.1.1.1.1.1.2, p.1.1.1.1.1.1.1.1.2, p.1.1.1.1.1.1.1.2, p.1.1.1.1.1.1.2, p.1.1.1.1.1.2, p.1.1.1.1.2, p.1.1.1.2, p.1.1.2, p.1.2, p.2⟩ : Cf)) (enc' := cfE) (val' := cfV) (g := fun c => ((((((((((c.c0, c.c1), c.c2), c.c3), c.c4), c.c5), c.c6), c.c7), c.c8), c.c9), c.c10)) (fun _ => rfl) (fun p => by simp [cfE, Cf.nums]) (fun p => by simp [cfV, Cf.nums, and_assoc])
  exact ⟨⟨n0, n1, n2, n3, n4, n5, n6, n7, n8, n9, n10⟩, ok10, ws10, rfl, (((((((((((H10.out.other hlt 0 _).other hlt 1 _).other hlt 2 _).other hlt 3 _).other hlt 4 _).other hlt 5 _).other hlt 6 _).other hlt 7 _).other hlt 8 _).other hlt 9 _).other hlt 10 _), (((((((((((HK10.out.other hlt (Nat.le_refl _) 0 _).other hlt (Nat.le_refl _) 1 _).other hlt (Nat.le_refl _) 2 _).other hlt (Nat.le_refl _) 3 _).other hlt (Nat.le_refl _) 4 _).other hlt (Nat.le_refl _) 5 _).other hlt (Nat.le_refl _) 6 _).other hlt (Nat.le_refl _) 7 _).other hlt (Nat.le_refl _) 8 _).other hlt (Nat.le_refl _) 9 _).other hlt (Nat.le_refl _) 10 _), hm⟩
theorem eltI : Elt Tryz.prog 25 3 (.int .i64 0) 1 8 := elt_mk (z := .int .i64 0) Tryz.underlying25 (by kernel_rfl) rfl (by omega) (by omega)
def MIRel (w0 w : World) (rb : Nat) (en : Wd) (ws : List Wd) (ok : Bool) (v : Value) (wr : World) : Prop := ∃ (xs : List (Int)) (ws1 : List Wd) (ok1 : Bool) (A : Option Addr) (n cap : Nat), v = .slice A n cap ∧ n = xs.length ∧ wr.ownsRow w.heap.size 3 1 (.slice A n cap) n (xs.flatMap inC) ∧ RSt w0 rb ws1 ok1 wr ∧ KR rb w wr ∧ Mny (Lib.itoa) (I64) en ws ok xs ws1 ok1 ∧ n + ws1.length ≤ ws.length ∧ (∀ x ∈ ws1, x.length ≤ 1000000)
def MIPost (w0 w : World) (rb : Nat) (en : Wd) (ws : List Wd) (ok : Bool) (e : Ending) (w' : World) : Prop := ∃ (xs : List (Int)) (ws1 : List Wd) (ok1 : Bool) (v : Value), e = .returned v ∧ w'.ownsRow w.heap.size 3 1 v xs.length (xs.flatMap inC) ∧ RSt w0 rb ws1 ok1 w' ∧ KR rb w w' ∧ Mny (Lib.itoa) (I64) en ws ok xs ws1 ok1 ∧ (ok1 = true → stopW en ws1) ∧ (∀ x ∈ ws1, x.length ≤ 1000000) ∧ ws1.length ≤ ws.length
set_option maxHeartbeats 8000000 in
set_option maxRecDepth 100000 in
theorem manyI_any {w0 w : World} (hG : G w0) {rb : Nat} (en : Wd) {ws : List Wd} {ok : Bool} (hl : ∀ x ∈ ws, x.length ≤ 1000000) (hwl : ws.length ≤ 1000000) (h : RSt w0 rb ws ok w) :
    Calls Tryz.prog 69 #[.pointer (some ⟨rb, 0, none⟩), .string ⟨en.toArray⟩, .func (.func 56) #[.pointer (some ⟨rb, 0, none⟩)] #[]] w (MIPost w0 w rb en ws ok) := by
  have HG := Lib.hid hG
  have hlt := h.rd.lt
  have H0 := Lib.hid (show MIRel w0 w rb en ws ok (.slice none 0 0) w from ⟨[], ws, ok, none, 0, 0, rfl, rfl, World.ownsRow_nil _ _ _ _, h, KR.refl _ _, Mny.start, by simp, hl⟩)
  clear h hG hl
  go_enter Tryz.func69, Tryz.ntmps69
  go_wp2_with fail
  go_loopw [7] (fun v wr => MIRel w0 w rb en ws ok v wr) (fun v _ => ws.length - slLen v)
  case atStart => exact H0.out
  case round =>
    obtain ⟨xs, ws1, ok1, A, n, cap, rfl, hn, hown, hst, hkr, hmn, hle, hl1⟩ := hrel
    have HN := Lib.hid hn
    have HOWN := Lib.hid hown
    have HST := Lib.hid hst
    have HKR := Lib.hid hkr
    have HMN := Lib.hid hmn
    have HL1 := Lib.hid hl1
    obtain ⟨v, hbk, hsq⟩ := id hst.rd
    obtain ⟨WA, wc, rfl, hwc1, hwc2, hwr, _⟩ := id hsq
    have c0 := cell_heap hbk (o := 0) rfl
    have c1 := cell_heap hbk (o := 1) rfl
    have hltr := hst.rd.lt
    have EXIT := Lib.hid (show (ok1 = true → stopW en ws1) → MIPost w0 w rb en ws ok (.returned (.slice A n cap)) wr from fun hs => ⟨xs, ws1, ok1, _, rfl, by rw [← hn]; exact hown, hst, hkr, hmn, hs, hl1, by omega⟩)
    unfold maxLen at hwc2
    clear hn hown hst hkr hmn hl1 H0 hbk
    cases ok1 with
    | false =>
      have HX := Lib.hid (EXIT.out (fun h => absurd h (by decide)))
      clear hsq hwr
      go_wp2_with fail
      go_ret
      exact HX.out
    | true =>
      cases ws1 with
      | nil =>
        have HX := Lib.hid (EXIT.out (fun _ => .inl rfl))
        clear hsq hwr
        go_wp2_with fail
        go_ret
        exact HX.out
      | cons x r =>
        obtain ⟨ad, e1, _, hb, hcell⟩ := hwr.2 (by simp)
        subst e1
        have d0 : wr.cell? ad = some (.string ⟨x.toArray⟩) := by
          have := hcell 0 (.string ⟨x.toArray⟩) rfl
          rwa [show ad.add 0 = ad from rfl] at this
        obtain ⟨rn, hrn⟩ : ∃ rn, (x :: r).length = rn := ⟨_, rfl⟩
        have hr0 : 0 < rn := by rw [← hrn]; simp
        have hrl : rn = r.length + 1 := by rw [← hrn]; simp
        rw [hrn] at c0 hwc1 hle
        have hbz : ad.block < wr.heap.size := Nat.lt_trans hb hltr
        have HRL := Lib.hid hrl
        clear hsq hwr hcell hrn hrl
        by_cases hx : x = en
        · subst hx
          have HX := Lib.hid (EXIT.out (fun _ => .inr rfl))
          go_wp2_with fail
          go_ret
          exact HX.out
        · have HXN := Lib.hid hx
          have hq1 : (x == en) = false := beq_eq_false_iff_ne.2 hx
          have hq2 : (x != en) = true := by simpa using hx
          have hq3 : ((⟨x.toArray⟩ : ByteArray) == ⟨en.toArray⟩) = false := by rw [beq_bytes]; exact decide_eq_false hx
          have hq4 : ((⟨x.toArray⟩ : ByteArray) != ⟨en.toArray⟩) = true := by unfold bne; rw [hq3]; rfl
          clear hx
          go_wp2_with fail
          refine (int_any HG.out HL1.out HST.out).mono ?_
          rintro e W1 ⟨x2, ok2, rfl, h1, hk1, hrd⟩
          have HO1 := Lib.hid (own_kr hk1 HST.out.rd (by decide) HOWN.out)
          have H1 := Lib.hid h1
          have HK1 := Lib.hid (HKR.out.trans hk1)
          have HM1 := Lib.hid (HMN.out.next (by simp) (by simp only [List.head?_cons, ne_eq, Option.some.injEq]; exact HXN.out) hrd)
          have hz1 := (HKR.out.trans hk1).size
          clear h1 hk1 hrd c0 c1 d0 hbz hltr hb hq1 hq2 hq3 hq4
          go_wp2_with (at_builtin; refine app1 W1 _ rfl (.tmp 30) (.tmp 33) _ rfl eltI w.heap.size A n cap _ rfl HO1.out rfl rfl (by simp [Value.oneCell']) (by omega) hz1 ?_; intro A' cap' w' hA)
          have HF := Lib.hid (show MIRel w0 w rb en ws ok (.slice A' (n + 1) cap') w' from by
            refine ⟨xs ++ [x2], r, ok2, A', n + 1, cap', rfl, by rw [HN.out]; simp, ?_, H1.out.low2 hlt hA.below, HK1.out.low hlt hA.below, HM1.out, by have := HRL.out; omega, tail_len HL1.out⟩
            have := hA.own
            rw [List.flatMap_append]
            simpa [inC] using this)
          clear hA
          go_wp2_with fail
          exact ⟨HF.out, by simp [slLen]; omega⟩
theorem eltD : Elt Tryz.prog 28 44 (.int .u64 0) 1 8 := elt_mk (z := .int .u64 0) Tryz.underlying28 (by kernel_rfl) rfl (by omega) (by omega)
def MDRel (w0 w : World) (rb : Nat) (en : Wd) (ws : List Wd) (ok : Bool) (v : Value) (wr : World) : Prop := ∃ (xs : List (Nat)) (ws1 : List Wd) (ok1 : Bool) (A : Option Addr) (n cap : Nat), v = .slice A n cap ∧ n = xs.length ∧ wr.ownsRow w.heap.size 44 1 (.slice A n cap) n (xs.flatMap u6C) ∧ RSt w0 rb ws1 ok1 wr ∧ KR rb w wr ∧ Mny (Lib.decDigits) (U64) en ws ok xs ws1 ok1 ∧ n + ws1.length ≤ ws.length ∧ (∀ x ∈ ws1, x.length ≤ 1000000)
def MDPost (w0 w : World) (rb : Nat) (en : Wd) (ws : List Wd) (ok : Bool) (e : Ending) (w' : World) : Prop := ∃ (xs : List (Nat)) (ws1 : List Wd) (ok1 : Bool) (v : Value), e = .returned v ∧ w'.ownsRow w.heap.size 44 1 v xs.length (xs.flatMap u6C) ∧ RSt w0 rb ws1 ok1 w' ∧ KR rb w w' ∧ Mny (Lib.decDigits) (U64) en ws ok xs ws1 ok1 ∧ (ok1 = true → stopW en ws1) ∧ (∀ x ∈ ws1, x.length ≤ 1000000) ∧ ws1.length ≤ ws.length
set_option maxHeartbeats 8000000 in
set_option maxRecDepth 100000 in
theorem manyD_any {w0 w : World} (hG : G w0) {rb : Nat} (en : Wd) {ws : List Wd} {ok : Bool} (hl : ∀ x ∈ ws, x.length ≤ 1000000) (hwl : ws.length ≤ 1000000) (h : RSt w0 rb ws ok w) :
    Calls Tryz.prog 70 #[.pointer (some ⟨rb, 0, none⟩), .string ⟨en.toArray⟩, .func (.func 71) #[.pointer (some ⟨rb, 0, none⟩)] #[]] w (MDPost w0 w rb en ws ok) := by
  have HG := Lib.hid hG
  have hlt := h.rd.lt
  have H0 := Lib.hid (show MDRel w0 w rb en ws ok (.slice none 0 0) w from ⟨[], ws, ok, none, 0, 0, rfl, rfl, World.ownsRow_nil _ _ _ _, h, KR.refl _ _, Mny.start, by simp, hl⟩)
  clear h hG hl
  go_enter Tryz.func70, Tryz.ntmps70
  go_wp2_with fail
  go_loopw [7] (fun v wr => MDRel w0 w rb en ws ok v wr) (fun v _ => ws.length - slLen v)
  case atStart => exact H0.out
  case round =>
    obtain ⟨xs, ws1, ok1, A, n, cap, rfl, hn, hown, hst, hkr, hmn, hle, hl1⟩ := hrel
    have HN := Lib.hid hn
    have HOWN := Lib.hid hown
    have HST := Lib.hid hst
    have HKR := Lib.hid hkr
    have HMN := Lib.hid hmn
    have HL1 := Lib.hid hl1
    obtain ⟨v, hbk, hsq⟩ := id hst.rd
    obtain ⟨WA, wc, rfl, hwc1, hwc2, hwr, _⟩ := id hsq
    have c0 := cell_heap hbk (o := 0) rfl
    have c1 := cell_heap hbk (o := 1) rfl
    have hltr := hst.rd.lt
    have EXIT := Lib.hid (show (ok1 = true → stopW en ws1) → MDPost w0 w rb en ws ok (.returned (.slice A n cap)) wr from fun hs => ⟨xs, ws1, ok1, _, rfl, by rw [← hn]; exact hown, hst, hkr, hmn, hs, hl1, by omega⟩)
    unfold maxLen at hwc2
    clear hn hown hst hkr hmn hl1 H0 hbk
    cases ok1 with
    | false =>
      have HX := Lib.hid (EXIT.out (fun h => absurd h (by decide)))
      clear hsq hwr
      go_wp2_with fail
      go_ret
      exact HX.out
    | true =>
      cases ws1 with
      | nil =>
        have HX := Lib.hid (EXIT.out (fun _ => .inl rfl))
        clear hsq hwr
        go_wp2_with fail
        go_ret
        exact HX.out
      | cons x r =>
        obtain ⟨ad, e1, _, hb, hcell⟩ := hwr.2 (by simp)
        subst e1
        have d0 : wr.cell? ad = some (.string ⟨x.toArray⟩) := by
          have := hcell 0 (.string ⟨x.toArray⟩) rfl
          rwa [show ad.add 0 = ad from rfl] at this
        obtain ⟨rn, hrn⟩ : ∃ rn, (x :: r).length = rn := ⟨_, rfl⟩
        have hr0 : 0 < rn := by rw [← hrn]; simp
        have hrl : rn = r.length + 1 := by rw [← hrn]; simp
        rw [hrn] at c0 hwc1 hle
        have hbz : ad.block < wr.heap.size := Nat.lt_trans hb hltr
        have HRL := Lib.hid hrl
        clear hsq hwr hcell hrn hrl
        by_cases hx : x = en
        · subst hx
          have HX := Lib.hid (EXIT.out (fun _ => .inr rfl))
          go_wp2_with fail
          go_ret
          exact HX.out
        · have HXN := Lib.hid hx
          have hq1 : (x == en) = false := beq_eq_false_iff_ne.2 hx
          have hq2 : (x != en) = true := by simpa using hx
          have hq3 : ((⟨x.toArray⟩ : ByteArray) == ⟨en.toArray⟩) = false := by rw [beq_bytes]; exact decide_eq_false hx
          have hq4 : ((⟨x.toArray⟩ : ByteArray) != ⟨en.toArray⟩) = true := by unfold bne; rw [hq3]; rfl
          clear hx
          go_wp2_with fail
          refine (draw_any HG.out HL1.out HST.out).mono ?_
          rintro e W1 ⟨x2, v2, ok2, rfl, rfl, h1, hk1, hrd⟩
          have HO1 := Lib.hid (own_kr hk1 HST.out.rd (by decide) HOWN.out)
          have H1 := Lib.hid h1
          have HK1 := Lib.hid (HKR.out.trans hk1)
          have HM1 := Lib.hid (HMN.out.next (by simp) (by simp only [List.head?_cons, ne_eq, Option.some.injEq]; exact HXN.out) hrd.rds)
          have hz1 := (HKR.out.trans hk1).size
          clear h1 hk1 hrd c0 c1 d0 hbz hltr hb hq1 hq2 hq3 hq4
          go_wp2_with (at_builtin; refine app1 W1 _ rfl (.tmp 30) (.tmp 33) _ rfl eltD w.heap.size A n cap _ rfl HO1.out rfl rfl (by simp [Value.oneCell']) (by omega) hz1 ?_; intro A' cap' w' hA)
          have HF := Lib.hid (show MDRel w0 w rb en ws ok (.slice A' (n + 1) cap') w' from by
            refine ⟨xs ++ [x2], r, ok2, A', n + 1, cap', rfl, by rw [HN.out]; simp, ?_, H1.out.low2 hlt hA.below, HK1.out.low hlt hA.below, HM1.out, by have := HRL.out; omega, tail_len HL1.out⟩
            have := hA.own
            rw [List.flatMap_append]
            simpa [u6C] using this)
          clear hA
          go_wp2_with fail
          exact ⟨HF.out, by simp [slLen]; omega⟩
theorem eltK : Elt Tryz.prog 29 46 (.agg #[.int .i64 0, .int .i64 0]) 2 16 := elt_mk (z := .agg #[.int .i64 0, .int .i64 0]) Tryz.underlying29 (by kernel_rfl) rfl (by omega) (by omega)
def MKRel (w0 w : World) (rb : Nat) (en : Wd) (ws : List Wd) (ok : Bool) (v : Value) (wr : World) : Prop := ∃ (xs : List (Int × Int)) (ws1 : List Wd) (ok1 : Bool) (A : Option Addr) (n cap : Nat), v = .slice A n cap ∧ n = xs.length ∧ wr.ownsRow w.heap.size 46 2 (.slice A n cap) n (xs.flatMap kpC) ∧ RSt w0 rb ws1 ok1 wr ∧ KR rb w wr ∧ Mny (keptW) (I2) en ws ok xs ws1 ok1 ∧ n + ws1.length ≤ ws.length ∧ (∀ x ∈ ws1, x.length ≤ 1000000)
def MKPost (w0 w : World) (rb : Nat) (en : Wd) (ws : List Wd) (ok : Bool) (e : Ending) (w' : World) : Prop := ∃ (xs : List (Int × Int)) (ws1 : List Wd) (ok1 : Bool) (v : Value), e = .returned v ∧ w'.ownsRow w.heap.size 46 2 v xs.length (xs.flatMap kpC) ∧ RSt w0 rb ws1 ok1 w' ∧ KR rb w w' ∧ Mny (keptW) (I2) en ws ok xs ws1 ok1 ∧ (ok1 = true → stopW en ws1) ∧ (∀ x ∈ ws1, x.length ≤ 1000000) ∧ ws1.length ≤ ws.length
set_option maxHeartbeats 8000000 in
set_option maxRecDepth 100000 in
theorem manyK_any {w0 w : World} (hG : G w0) {rb : Nat} (en : Wd) {ws : List Wd} {ok : Bool} (hl : ∀ x ∈ ws, x.length ≤ 1000000) (hwl : ws.length ≤ 1000000) (h : RSt w0 rb ws ok w) :
    Calls Tryz.prog 57 #[.pointer (some ⟨rb, 0, none⟩), .string ⟨en.toArray⟩, .func (.func 58) #[.pointer (some ⟨rb, 0, none⟩)] #[]] w (MKPost w0 w rb en ws ok) := by
  have HG := Lib.hid hG
  have hlt := h.rd.lt
  have H0 := Lib.hid (show MKRel w0 w rb en ws ok (.slice none 0 0) w from ⟨[], ws, ok, none, 0, 0, rfl, rfl, World.ownsRow_nil _ _ _ _, h, KR.refl _ _, Mny.start, by simp, hl⟩)
  clear h hG hl
  go_enter Tryz.func57, Tryz.ntmps57
  go_wp2_with fail
  go_loopw [7] (fun v wr => MKRel w0 w rb en ws ok v wr) (fun v _ => ws.length - slLen v)
  case atStart => exact H0.out
  case round =>
    obtain ⟨xs, ws1, ok1, A, n, cap, rfl, hn, hown, hst, hkr, hmn, hle, hl1⟩ := hrel
    have HN := Lib.hid hn
    have HOWN := Lib.hid hown
    have HST := Lib.hid hst
    have HKR := Lib.hid hkr
    have HMN := Lib.hid hmn
    have HL1 := Lib.hid hl1
    obtain ⟨v, hbk, hsq⟩ := id hst.rd
    obtain ⟨WA, wc, rfl, hwc1, hwc2, hwr, _⟩ := id hsq
    have c0 := cell_heap hbk (o := 0) rfl
    have c1 := cell_heap hbk (o := 1) rfl
    have hltr := hst.rd.lt
    have EXIT := Lib.hid (show (ok1 = true → stopW en ws1) → MKPost w0 w rb en ws ok (.returned (.slice A n cap)) wr from fun hs => ⟨xs, ws1, ok1, _, rfl, by rw [← hn]; exact hown, hst, hkr, hmn, hs, hl1, by omega⟩)
    unfold maxLen at hwc2
    clear hn hown hst hkr hmn hl1 H0 hbk
    cases ok1 with
    | false =>
      have HX := Lib.hid (EXIT.out (fun h => absurd h (by decide)))
      clear hsq hwr
      go_wp2_with fail
      go_ret
      exact HX.out
    | true =>
      cases ws1 with
      | nil =>
        have HX := Lib.hid (EXIT.out (fun _ => .inl rfl))
        clear hsq hwr
        go_wp2_with fail
        go_ret
        exact HX.out
      | cons x r =>
        obtain ⟨ad, e1, _, hb, hcell⟩ := hwr.2 (by simp)
        subst e1
        have d0 : wr.cell? ad = some (.string ⟨x.toArray⟩) := by
          have := hcell 0 (.string ⟨x.toArray⟩) rfl
          rwa [show ad.add 0 = ad from rfl] at this
        obtain ⟨rn, hrn⟩ : ∃ rn, (x :: r).length = rn := ⟨_, rfl⟩
        have hr0 : 0 < rn := by rw [← hrn]; simp
        have hrl : rn = r.length + 1 := by rw [← hrn]; simp
        rw [hrn] at c0 hwc1 hle
        have hbz : ad.block < wr.heap.size := Nat.lt_trans hb hltr
        have HRL := Lib.hid hrl
        clear hsq hwr hcell hrn hrl
        by_cases hx : x = en
        · subst hx
          have HX := Lib.hid (EXIT.out (fun _ => .inr rfl))
          go_wp2_with fail
          go_ret
          exact HX.out
        · have HXN := Lib.hid hx
          have hq1 : (x == en) = false := beq_eq_false_iff_ne.2 hx
          have hq2 : (x != en) = true := by simpa using hx
          have hq3 : ((⟨x.toArray⟩ : ByteArray) == ⟨en.toArray⟩) = false := by rw [beq_bytes]; exact decide_eq_false hx
          have hq4 : ((⟨x.toArray⟩ : ByteArray) != ⟨en.toArray⟩) = true := by unfold bne; rw [hq3]; rfl
          clear hx
          go_wp2_with fail
          refine (kept_any HG.out HL1.out HST.out).mono ?_
          rintro e W1 ⟨x2, y2, ok2, rfl, h1, hk1, hrd⟩
          have HO1 := Lib.hid (own_kr hk1 HST.out.rd (by decide) HOWN.out)
          have H1 := Lib.hid h1
          have HK1 := Lib.hid (HKR.out.trans hk1)
          have HM1 := Lib.hid (HMN.out.next (by simp) (by simp only [List.head?_cons, ne_eq, Option.some.injEq]; exact HXN.out) hrd)
          have hz1 := (HKR.out.trans hk1).size
          clear h1 hk1 hrd c0 c1 d0 hbz hltr hb hq1 hq2 hq3 hq4
          go_wp2_with (at_builtin; refine app1 W1 _ rfl (.tmp 30) (.tmp 33) _ rfl eltK w.heap.size A n cap _ rfl HO1.out rfl rfl (by simp [Value.oneCell']) (by omega) hz1 ?_; intro A' cap' w' hA)
          have HF := Lib.hid (show MKRel w0 w rb en ws ok (.slice A' (n + 1) cap') w' from by
            refine ⟨xs ++ [(x2, y2)], r, ok2, A', n + 1, cap', rfl, by rw [HN.out]; simp, ?_, H1.out.low2 hlt hA.below, HK1.out.low hlt hA.below, HM1.out, by have := HRL.out; omega, tail_len HL1.out⟩
            have := hA.own
            rw [List.flatMap_append]
            simpa [kpC] using this)
          clear hA
          go_wp2_with fail
          exact ⟨HF.out, by simp [slLen]; omega⟩
end Go.Proofs.YtchgfabgighbfaaGreatDoor.RdkW
