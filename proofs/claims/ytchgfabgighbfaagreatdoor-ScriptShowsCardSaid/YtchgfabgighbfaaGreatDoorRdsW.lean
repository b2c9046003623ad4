/- script's reader: the next word, a number, a draw. -/
import Derived.Test.YtchgfabgighbfaaGreatDoorGlbD
import Derived.Test.YtchgfabgighbfaaGreatDoorFmtW
import Derived.Test.YtchgfabgighbfaaGreatDoorScrR
namespace Go.Proofs.YtchgfabgighbfaaGreatDoor.RdsW
set_option linter.unusedVariables false
open Go.RowKit Base SeqM ScrM ScrP ScrR TxtM GlbD FmtW

def wdC (x : Wd) : List Value := [.string ⟨x.toArray⟩]
theorem wdC_len (x : Wd) : (wdC x).length = 1 := rfl
theorem beq_bytes (a b : List UInt8) : ((⟨a.toArray⟩ : ByteArray) == ⟨b.toArray⟩) = decide (a = b) := by
  show (a.toArray == b.toArray) = _
  rw [Bool.eq_iff_iff]
  simp
/-- the reader's block -/
def RdA (w : World) (rb : Nat) (ws : List Wd) (ok : Bool) : Prop := ∃ v, w.heap[rb]? = some (.cells #[v, .bool ok] 92 (0, 0)) ∧ Seq 1 wdC w 0 rb v ws
theorem cell_heap {w : World} {b o : Nat} {cs : Array Value} {t : TypeId} {fz : Nat × Nat} {u : Value} (h : w.heap[b]? = some (.cells cs t fz)) (hu : cs[o]? = some u) : w.cell? ⟨b, o, none⟩ = some u := by
  simp [World.cell?, h, hu]
theorem free_heap {w : World} {b : Nat} {cs : Array Value} {t : TypeId} (h : w.heap[b]? = some (.cells cs t (0, 0))) (o : Nat) : w.frozen? ⟨b, o, none⟩ = false := by
  simp [World.frozen?, h]
/-- nothing but one block (and what is new) has turned -/
def KR (rb : Nat) (w w' : World) : Prop := Below rb w w' ∧ ∀ k, k < w.heap.size → k ≠ rb → w'.heap[k]? = w.heap[k]?
theorem KR.size {rb : Nat} {w w' : World} (h : KR rb w w') : w.heap.size ≤ w'.heap.size := h.1.size
theorem KR.refl (rb : Nat) (w : World) : KR rb w w := ⟨Below.refl _ _, fun _ _ _ => rfl⟩
theorem KR.set {rb : Nat} {w w' : World} (h : KR rb w w') (o : Nat) (v : Value) : KR rb w (w'.setCell ⟨rb, o, none⟩ v) :=
  ⟨h.1.setCell (p := ⟨rb, o, none⟩) (Nat.le_refl _) v, fun k hk hne => (Below.heap_setCell _ _ _ k hne).trans (h.2 k hk hne)⟩
theorem KR.trans {rb : Nat} {w w' w'' : World} (h : KR rb w w') (h' : KR rb w' w'') : KR rb w w'' := ⟨h.1.trans h'.1, fun k hk hne => (h'.2 k (Nat.lt_of_lt_of_le hk h.1.size) hne).trans (h.2 k hk hne)⟩
theorem KR.of_below {rb : Nat} {w w' : World} (h : Below w.heap.size w w') (hrb : rb ≤ w.heap.size) : KR rb w w' := ⟨h.mono hrb, fun k hk _ => h.block k hk⟩
theorem KR.cells {rb : Nat} {w w' : World} (h : KR rb w w') {k : Nat} (hne : k ≠ rb) {o : Obj} (he : w.heap[k]? = some o) : w'.heap[k]? = some o :=
  (h.2 k (Array.getElem?_eq_some_iff.1 he).1 hne).trans he
theorem RdA.lt {w : World} {rb : Nat} {ws : List Wd} {ok : Bool} (h : RdA w rb ws ok) : rb < w.heap.size := by
  obtain ⟨v, h, _⟩ := h; exact (Array.getElem?_eq_some_iff.1 h).1
theorem RdA.below {w w' : World} {rb : Nat} {ws : List Wd} {ok : Bool} (h : RdA w rb ws ok) (hb : Below w.heap.size w w') : RdA w' rb ws ok := by
  have hl := h.lt
  obtain ⟨v, h, hs⟩ := h
  exact ⟨v, (hb.block rb hl).trans h, hs.below (hb.mono (Nat.le_of_lt hl))⟩
theorem RdA.set {w : World} {rb : Nat} {ws ws' : List Wd} {ok : Bool} (h : RdA w rb ws ok) (v' : Value) (hs : Seq 1 wdC w 0 rb v' ws') : RdA (w.setCell ⟨rb, 0, none⟩ v') rb ws' ok := by
  obtain ⟨v, h, _⟩ := h
  have := Go.heap_setCell_same w rb 0 _ _ v' h
  exact ⟨v', by rw [this]; simp, hs.below ((Below.refl rb w).setCell (p := ⟨rb, 0, none⟩) (Nat.le_refl _) _)⟩
theorem RdA.setOk {w : World} {rb : Nat} {ws : List Wd} {ok : Bool} (h : RdA w rb ws ok) (b : Bool) : RdA (w.setCell ⟨rb, 1, none⟩ (.bool b)) rb ws b := by
  obtain ⟨v, h, hs⟩ := h
  have := Go.heap_setCell_same w rb 1 _ _ (Value.bool b) h
  exact ⟨v, by rw [this]; simp, hs.below ((Below.refl rb w).setCell (p := ⟨rb, 1, none⟩) (Nat.le_refl _) _)⟩
/-- the reader on its way -/
structure RSt (w0 : World) (rb : Nat) (ws : List Wd) (ok : Bool) (W : World) : Prop where
  rd : RdA W rb ws ok
  low : Below w0.heap.size w0 W
  le : w0.heap.size ≤ rb
theorem RSt.free {w0 W W' : World} {rb : Nat} {ws : List Wd} {ok : Bool} (h : RSt w0 rb ws ok W) (hb : Below W.heap.size W W') : RSt w0 rb ws ok W' := ⟨h.rd.below hb, bt hb h.low, h.le⟩
theorem RSt.kr {w0 W W' : World} {rb : Nat} {ws ws' : List Wd} {ok ok' : Bool} (h : RSt w0 rb ws ok W) (hk : KR rb W W') (hr : RdA W' rb ws' ok') : RSt w0 rb ws' ok' W' := ⟨hr, h.low.trans (hk.1.mono h.le), h.le⟩
set_option maxHeartbeats 2000000 in
set_option maxRecDepth 100000 in
theorem next_any {w0 w : World} {rb : Nat} {ws : List Wd} {ok : Bool} (h : RSt w0 rb ws ok w) :
    Calls Tryz.prog 53 #[.pointer (some ⟨rb, 0, none⟩)] w fun e w' => e = .returned (.string ⟨(nextW ws).toArray⟩) ∧ RSt w0 rb ws.tail (nextOk ws ok) w' ∧ KR rb w w' := by
  obtain ⟨v, hbk, hs⟩ := id h.rd
  obtain ⟨A, cap, rfl, hc1, hc2, hr, hA⟩ := id hs
  have c0 := cell_heap hbk (o := 0) rfl
  have c1 := cell_heap hbk (o := 1) rfl
  have f0 := free_heap hbk 0
  have f1 := free_heap hbk 1
  have H := Lib.hid h
  have HS := Lib.hid hs
  have hlt := h.rd.lt
  unfold maxLen at hc2
  cases ws with
  | nil =>
    clear h hs hbk hr hA
    go_enter Tryz.func53, Tryz.ntmps53
    go_wp2_with fail
    go_ret
    have hk := (KR.refl rb w).set 1 (.bool false)
    exact ⟨rfl, H.out.kr hk (by have := H.out.rd.setOk false; simpa [nextOk] using this), hk⟩
  | cons x r =>
    obtain ⟨ad, e1, _, hb, hcell⟩ := hr.2 (by simp)
    subst e1
    have d0 : w.cell? ad = some (.string ⟨x.toArray⟩) := by
      have := hcell 0 (.string ⟨x.toArray⟩) rfl
      rwa [show ad.add 0 = ad from rfl] at this
    obtain ⟨n, hn⟩ : ∃ n, r.length = n := ⟨_, rfl⟩
    have hn1 : (x :: r).length = n + 1 := by simp [hn]
    rw [hn1] at c0 hc1 HS hr
    have HN := Lib.hid hn
    have hbz : ad.block < w.heap.size := Nat.lt_trans hb hlt
    by_cases hcap : cap = 1
    · subst hcap
      have hn0 : n = 0 := by omega
      subst hn0
      have hr0 : r = [] := List.eq_nil_of_length_eq_zero hn
      clear h hs hbk hr hA hcell hn hn1
      go_enter Tryz.func53, Tryz.ntmps53
      go_wp2_with fail
      go_ret
      have hk := fun v' => (KR.refl rb w).set 0 v'
      subst hr0
      exact ⟨rfl, H.out.kr (hk _) (by have := H.out.rd.set _ (show Seq 1 wdC w 0 rb (.slice (some ad) 0 0) [] from ⟨some ad, 0, rfl, Nat.le_refl _, by unfold maxLen; omega, Rd.nil_, fun hh => by cases hh⟩); simpa [nextOk] using this), hk _⟩
    · have ea : ad.add 1 = ⟨ad.block, ad.off + 1, none⟩ := by unfold Addr.add; rfl
      have HSQ := Lib.hid (show Seq 1 wdC w 0 rb (.slice (some ⟨ad.block, ad.off + 1, none⟩) n (cap - 1)) r from ⟨some ⟨ad.block, ad.off + 1, none⟩, cap - 1, by rw [hn], by omega, by unfold maxLen; omega, by
        have := hr.cut (k := 1) (cap := cap) (by omega) hc1
        rw [if_neg hcap] at this
        rw [hn, ← ea]
        simpa [wdC] using this, fun hh => by cases hh⟩)
      clear h hs hbk hr hA hcell hn hn1 ea
      go_enter Tryz.func53, Tryz.ntmps53
      go_wp2_with fail
      go_ret
      have hk := fun v' => (KR.refl rb w).set 0 v'
      exact ⟨rfl, H.out.kr (hk _) (by have := H.out.rd.set _ HSQ.out; simpa [nextOk] using this), hk _⟩
theorem RSt.G {w0 w : World} {rb : Nat} {ws : List Wd} {ok : Bool} (h : RSt w0 rb ws ok w) (hG : G w0) : GlbD.G w := hG.below h.low
theorem RSt.cells {w0 w : World} {rb : Nat} {ws : List Wd} {ok : Bool} (h : RSt w0 rb ws ok w) : ∃ A n cap, w.cell? ⟨rb, 0, none⟩ = some (.slice A n cap) ∧ n = ws.length ∧ w.cell? ⟨rb, 1, none⟩ = some (.bool ok) ∧ (∀ o, w.frozen? ⟨rb, o, none⟩ = false) ∧ rb < w.heap.size := by
  obtain ⟨v, hbk, A, cap, rfl, _⟩ := h.rd
  exact ⟨A, _, cap, cell_heap hbk rfl, rfl, cell_heap hbk rfl, free_heap hbk, (Array.getElem?_eq_some_iff.1 hbk).1⟩
def NumPost (w0 w : World) (rb : Nat) (ws : List Wd) (ok : Bool) (wd : Wd) (e : Ending) (w' : World) : Prop := ∃ n ok', e = .returned (.int .i64 n) ∧ RSt w0 rb ws ok' w' ∧ KR rb w w' ∧ One Lib.itoa I64 wd ok n ok'
def DrwPost (w0 w : World) (rb : Nat) (ws : List Wd) (ok : Bool) (wd : Wd) (e : Ending) (w' : World) : Prop := ∃ (n : Nat) (v : Int) (ok' : Bool), v = (n : Int) ∧ e = .returned (.int .u64 v) ∧ RSt w0 rb ws ok' w' ∧ KR rb w w' ∧ One Lib.decDigits U64 wd ok n ok'
theorem RSt.put {w0 w : World} {rb : Nat} {ws : List Wd} {ok : Bool} (h : RSt w0 rb ws ok w) (b : Bool) : RSt w0 rb ws b (w.setCell ⟨rb, 1, none⟩ (.bool b)) := h.kr ((KR.refl rb w).set 1 _) (h.rd.setOk b)
set_option maxHeartbeats 2000000 in
set_option maxRecDepth 100000 in
theorem number_any {w0 w : World} (hG : G w0) {rb : Nat} {ws : List Wd} {ok : Bool} (wd : Wd) (hl : wd.length ≤ 1000000) (h : RSt w0 rb ws ok w) :
    Calls Tryz.prog 72 #[.pointer (some ⟨rb, 0, none⟩), .string ⟨wd.toArray⟩] w (NumPost w0 w rb ws ok wd) := by
  have HG := Lib.hid hG
  have H := Lib.hid h
  have hlt := h.rd.lt
  clear h hG
  by_cases hA : ∃ v, Lib.atoiAll wd = .ok v
  · obtain ⟨v, hv⟩ := hA
    have hvb := Lib.atoiAll_bounds hv
    have HV := Lib.hid (show ∀ m, I64 m → wd = Lib.itoa m → v = m from fun m hm e => by
      rw [e, atoi_itoa m hm.1 hm.2] at hv
      injection hv with hv; exact hv.symm)
    have HA := Lib.hid (Atoi_yes ⟨wd.toArray⟩ w (by show wd.toArray.size ≤ _; simp; omega) v (by simpa using hv))
    clear hv
    go_enter Tryz.func72, Tryz.ntmps72
    go_wp2_with fail
    refine HA.out.mono ?_
    rintro e W1 ⟨rfl, hb1⟩
    have H1 := Lib.hid (H.out.free hb1)
    have HK1 := Lib.hid (KR.of_below hb1 (Nat.le_of_lt hlt))
    have hlt1 := H1.out.rd.lt
    obtain ⟨WA, wn, wc, c0, _, c1, hf, _⟩ := H1.out.cells
    clear hb1
    cases ok with
    | false =>
      go_wp2_with fail
      go_ret
      exact ⟨_, false, rfl, H1.out.put false, HK1.out.set _ _, ⟨fun h => absurd h (by decide), fun h => absurd h (by decide)⟩⟩
    | true =>
      go_wp2_with fail
      refine (Itoa_any v W1 (H1.out.G HG.out) hvb.1 (by omega)).mono ?_
      rintro e W2 ⟨rfl, hb2⟩
      have H2 := Lib.hid (H1.out.free hb2)
      have HK2 := Lib.hid (HK1.out.trans (KR.of_below hb2 (Nat.le_of_lt hlt1)))
      clear c0 c1 hf hb2
      have hlt2 := H2.out.rd.lt
      obtain ⟨WA, wn, wc, c0, _, c1, hf, _⟩ := H2.out.cells
      by_cases hvi : Lib.itoa v = wd
      · have HVI := Lib.hid hvi
        subst hvi
        go_wp2_with fail
        go_ret
        exact ⟨_, true, rfl, H2.out.put true, HK2.out.set _ _, ⟨fun _ => ⟨rfl, rfl, hvb.1, by omega⟩, fun _ m hm e => ⟨rfl, HV.out m hm e⟩⟩⟩
      · have HNE := Lib.hid hvi
        have hbq : (Lib.itoa v == wd) = false := beq_eq_false_iff_ne.2 hvi
        have hbr : ((⟨(Lib.itoa v).toArray⟩ : ByteArray) == ⟨wd.toArray⟩) = false := by
          rw [beq_bytes]; exact decide_eq_false hvi
        clear hvi
        go_wp2_with fail
        go_ret
        exact ⟨_, false, rfl, H2.out.put false, HK2.out.set _ _, ⟨fun h => absurd h (by decide), fun _ m hm e => absurd (by rw [HV.out m hm e]; exact e.symm) HNE.out⟩⟩
  · have HE := Lib.hid (show ∀ v, Lib.atoiAll wd ≠ .ok v from fun v hv => hA ⟨v, hv⟩)
    have HNO := Lib.hid (show ∀ m, I64 m → wd ≠ Lib.itoa m from fun m hm e => hA ⟨m, by rw [e]; exact atoi_itoa m hm.1 hm.2⟩)
    have HA := Lib.hid (Atoi_no ⟨wd.toArray⟩ w (H.out.G HG.out) (by show wd.toArray.size ≤ _; simp; omega) (by simpa using HE.out))
    clear hA
    go_enter Tryz.func72, Tryz.ntmps72
    go_wp2_with fail
    refine HA.out.mono ?_
    rintro e W1 ⟨⟨v, p, rfl⟩, hb1⟩
    have H1 := Lib.hid (H.out.free hb1)
    have HK1 := Lib.hid (KR.of_below hb1 (Nat.le_of_lt hlt))
    have hlt1 := H1.out.rd.lt
    obtain ⟨WA, wn, wc, c0, _, c1, hf, _⟩ := H1.out.cells
    clear hb1
    cases ok with
    | false =>
      go_wp2_with fail
      go_ret
      exact ⟨_, false, rfl, H1.out.put false, HK1.out.set _ _, ⟨fun h => absurd h (by decide), fun h => absurd h (by decide)⟩⟩
    | true =>
      go_wp2_with fail
      go_ret
      exact ⟨_, false, rfl, H1.out.put false, HK1.out.set _ _, ⟨fun h => absurd h (by decide), fun _ m hm e => absurd e (HNO.out m hm)⟩⟩
set_option maxHeartbeats 2000000 in
set_option maxRecDepth 100000 in
theorem draw_any {w0 w : World} (hG : G w0) {rb : Nat} {ws0 : List Wd} {ok0 : Bool} (hl0 : ∀ x ∈ ws0, x.length ≤ 1000000) (h0 : RSt w0 rb ws0 ok0 w) :
    Calls Tryz.prog 71 #[.pointer (some ⟨rb, 0, none⟩)] w (DrwPost w0 w rb ws0.tail (nextOk ws0 ok0) (nextW ws0)) := by
  have HG := Lib.hid hG
  have HN0 := Lib.hid (next_any h0)
  have hl : (nextW ws0).length ≤ 1000000 := by
    cases ws0 with
    | nil => simp [nextW]
    | cons x r => exact hl0 x (by simp)
  obtain ⟨wd, hwd⟩ : ∃ wd, nextW ws0 = wd := ⟨_, rfl⟩
  obtain ⟨ws, hws⟩ : ∃ ws, ws0.tail = ws := ⟨_, rfl⟩
  obtain ⟨ok, hok⟩ : ∃ ok, nextOk ws0 ok0 = ok := ⟨_, rfl⟩
  rw [hwd, hws, hok] at HN0 ⊢
  rw [hwd] at hl
  clear h0 hG hl0 hwd hws hok
  by_cases hA : ∃ v, Lib.parseUintB 64 wd = .ok v
  · obtain ⟨v, hv⟩ := hA
    have hvb := parseB_lt hv
    have HV := Lib.hid (show ∀ m, U64 m → wd = Lib.decDigits m → v = m from fun m hm e => by
      rw [e, parseB_dec m hm] at hv
      injection hv with hv; exact hv.symm)
    have HA := Lib.hid (fun W => PUint_yes ⟨wd.toArray⟩ W (by show wd.toArray.size ≤ _; simp; omega) v (by simpa using hv))
    clear hv
    go_enter Tryz.func71, Tryz.ntmps71
    go_wp2_with fail
    refine HN0.out.mono ?_
    rintro e W0 ⟨rfl, h, hk0⟩
    have H := Lib.hid h
    have HK0 := Lib.hid hk0
    have hlt := h.rd.lt
    clear h hk0
    go_wp2_with fail
    refine (HA.out _).mono ?_
    rintro e W1 ⟨rfl, hb1⟩
    have H1 := Lib.hid (H.out.free hb1)
    have HK1 := Lib.hid (HK0.out.trans (KR.of_below hb1 (Nat.le_of_lt hlt)))
    have hlt1 := H1.out.rd.lt
    obtain ⟨WA, wn, wc, c0, _, c1, hf, _⟩ := H1.out.cells
    clear hb1
    cases ok with
    | false =>
      go_wp2_with fail
      go_ret
      exact ⟨v, _, false, rfl, rfl, H1.out.put false, HK1.out.set _ _, ⟨fun h => absurd h (by decide), fun h => absurd h (by decide)⟩⟩
    | true =>
      go_wp2_with fail
      refine (FormatUint_any v hvb W1 (H1.out.G HG.out)).mono ?_
      rintro e W2 ⟨rfl, hb2⟩
      have H2 := Lib.hid (H1.out.free hb2)
      have HK2 := Lib.hid (HK1.out.trans (KR.of_below hb2 (Nat.le_of_lt hlt1)))
      clear c0 c1 hf hb2
      have hlt2 := H2.out.rd.lt
      obtain ⟨WA, wn, wc, c0, _, c1, hf, _⟩ := H2.out.cells
      by_cases hvi : Lib.decDigits v = wd
      · have HVI := Lib.hid hvi
        subst hvi
        go_wp2_with fail
        go_ret
        exact ⟨v, _, true, rfl, rfl, H2.out.put true, HK2.out.set _ _, ⟨fun _ => ⟨rfl, rfl, hvb⟩, fun _ m hm e => ⟨rfl, HV.out m hm e⟩⟩⟩
      · have HNE := Lib.hid hvi
        have hbq : (Lib.decDigits v == wd) = false := beq_eq_false_iff_ne.2 hvi
        have hbr : ((⟨(Lib.decDigits v).toArray⟩ : ByteArray) == ⟨wd.toArray⟩) = false := by
          rw [beq_bytes]; exact decide_eq_false hvi
        clear hvi
        go_wp2_with fail
        go_ret
        exact ⟨v, _, false, rfl, rfl, H2.out.put false, HK2.out.set _ _, ⟨fun h => absurd h (by decide), fun _ m hm e => absurd (by rw [HV.out m hm e]; exact e.symm) HNE.out⟩⟩
  · have HE := Lib.hid (show ∀ v, Lib.parseUintB 64 wd ≠ .ok v from fun v hv => hA ⟨v, hv⟩)
    have HNO := Lib.hid (show ∀ m, U64 m → wd ≠ Lib.decDigits m from fun m hm e => hA ⟨m, by rw [e]; exact parseB_dec m hm⟩)
    have HA := Lib.hid (fun W (hG : GlbD.G W) => PUint_no ⟨wd.toArray⟩ W hG (by show wd.toArray.size ≤ _; simp; omega) (by simpa using HE.out))
    clear hA
    go_enter Tryz.func71, Tryz.ntmps71
    go_wp2_with fail
    refine HN0.out.mono ?_
    rintro e W0 ⟨rfl, h, hk0⟩
    have H := Lib.hid h
    have HK0 := Lib.hid hk0
    have hlt := h.rd.lt
    clear h hk0
    go_wp2_with fail
    refine (HA.out _ (H.out.G HG.out)).mono ?_
    rintro e W1 ⟨⟨v, p, rfl⟩, hb1⟩
    have H1 := Lib.hid (H.out.free hb1)
    have HK1 := Lib.hid (HK0.out.trans (KR.of_below hb1 (Nat.le_of_lt hlt)))
    have hlt1 := H1.out.rd.lt
    obtain ⟨WA, wn, wc, c0, _, c1, hf, _⟩ := H1.out.cells
    clear hb1
    cases ok with
    | false =>
      go_wp2_with fail
      go_ret
      exact ⟨v, _, false, rfl, rfl, H1.out.put false, HK1.out.set _ _, ⟨fun h => absurd h (by decide), fun h => absurd h (by decide)⟩⟩
    | true =>
      go_wp2_with fail
      go_ret
      exact ⟨v, _, false, rfl, rfl, H1.out.put false, HK1.out.set _ _, ⟨fun h => absurd h (by decide), fun _ m hm e => absurd e (HNO.out m hm)⟩⟩
theorem next_len {ws : List Wd} (hl : ∀ x ∈ ws, x.length ≤ 1000000) : (nextW ws).length ≤ 1000000 := by
  cases ws with
  | nil => simp [nextW]
  | cons x r => exact hl x (by simp)
def IntPost (w0 w : World) (rb : Nat) (ws : List Wd) (ok : Bool) (e : Ending) (w' : World) : Prop := ∃ n ok', e = .returned (.int .i64 n) ∧ RSt w0 rb ws.tail ok' w' ∧ KR rb w w' ∧ Rds (fun x => [Lib.itoa x]) I64 ws ok n ws.tail ok'
set_option maxHeartbeats 2000000 in
set_option maxRecDepth 100000 in
theorem int_any {w0 w : World} (hG : G w0) {rb : Nat} {ws : List Wd} {ok : Bool} (hl : ∀ x ∈ ws, x.length ≤ 1000000) (h : RSt w0 rb ws ok w) :
    Calls Tryz.prog 56 #[.pointer (some ⟨rb, 0, none⟩)] w (IntPost w0 w rb ws ok) := by
  have HG := Lib.hid hG
  have HN0 := Lib.hid (next_any h)
  have HL := Lib.hid (next_len hl)
  clear h hG hl
  go_enter Tryz.func56, Tryz.ntmps56
  go_wp2_with fail
  refine HN0.out.mono ?_
  rintro e W0 ⟨rfl, h, hk0⟩
  have H := Lib.hid h
  have HK0 := Lib.hid hk0
  clear h hk0
  go_wp2_with fail
  refine (number_any HG.out _ HL.out H.out).mono ?_
  rintro e W1 ⟨n, ok', rfl, h1, hk1, ho⟩
  have H1 := Lib.hid h1
  have HK1 := Lib.hid hk1
  have HO := Lib.hid ho
  clear h1 hk1 ho
  go_wp2_with fail
  go_ret
  exact ⟨n, ok', rfl, H1.out, HK0.out.trans HK1.out, HO.out.rds⟩
theorem RdA.other {w : World} {rb : Nat} {ws : List Wd} {ok : Bool} (h : RdA w rb ws ok) {g : Nat} (hg : rb < g) (o : Nat) (v : Value) : RdA (w.setCell ⟨g, o, none⟩ v) rb ws ok := by
  obtain ⟨u, h, hs⟩ := h
  exact ⟨u, (Below.heap_setCell _ _ _ rb (fun e => by simp only at e; omega)).trans h, hs.below ((Below.refl rb w).setCell (p := ⟨g, o, none⟩) (Nat.le_of_lt hg) _)⟩
theorem RSt.other {w0 w : World} {rb : Nat} {ws : List Wd} {ok : Bool} (h : RSt w0 rb ws ok w) {g : Nat} (hg : rb < g) (o : Nat) (v : Value) : RSt w0 rb ws ok (w.setCell ⟨g, o, none⟩ v) :=
  ⟨h.rd.other hg o v, h.low.setCell (p := ⟨g, o, none⟩) (Nat.le_of_lt (Nat.lt_of_le_of_lt h.le hg)) v, h.le⟩
theorem KR.other {rb : Nat} {w W : World} (h : KR rb w W) (hrb : rb < w.heap.size) {g : Nat} (hg : w.heap.size ≤ g) (o : Nat) (v : Value) : KR rb w (W.setCell ⟨g, o, none⟩ v) :=
  ⟨h.1.setCell (p := ⟨g, o, none⟩) (by show rb ≤ g; omega) v, fun k hk hne => (Below.heap_setCell _ _ _ k (fun e => by simp only at e; omega)).trans (h.2 k hk hne)⟩
/-- what is new may turn -/
theorem KR.low {rb : Nat} {w W W' : World} (h : KR rb w W) (hrb : rb < w.heap.size) (hb : Below w.heap.size W W') : KR rb w W' :=
  ⟨h.1.trans (hb.mono (Nat.le_of_lt hrb)), fun k hk hne => (hb.block k hk).trans (h.2 k hk hne)⟩
theorem RSt.low2 {w0 W W' : World} {rb : Nat} {ws : List Wd} {ok : Bool} (h : RSt w0 rb ws ok W) {B : Nat} (hrb : rb < B) (hb : Below B W W') : RSt w0 rb ws ok W' := by
  obtain ⟨⟨v, h1, h2⟩, h3, h4⟩ := h
  exact ⟨⟨v, (hb.block rb hrb).trans h1, h2.below (hb.mono (Nat.le_of_lt hrb))⟩, h3.trans (hb.mono (by omega)), h4⟩
end Go.Proofs.YtchgfabgighbfaaGreatDoor.RdsW
