/- Faults: fault.Steps. -/
import Derived.Test.YthinjoldbjcifaaDoorFltT
namespace Go.Proofs.YthinjoldbjcifaaDoor.FltS
set_option linter.unusedVariables false
open Go.RowKit Go.Sort Go.Stop Go.Extern Base FltM FltW FltX FltI FltH FltA FltC FltT

def cellsP (l : List (List UInt8 × Int)) : List Value := l.flatMap fun x => [.string ⟨x.1.toArray⟩, .int .i64 x.2]
theorem cellsP_len (l : List (List UInt8 × Int)) : (cellsP l).length = l.length * 2 := by
  unfold cellsP
  induction l with
  | nil => rfl
  | cons x r ih => simp only [List.flatMap_cons, List.length_append, ih, List.length_cons, List.length_nil]; omega
theorem cellsP_app (a b : List (List UInt8 × Int)) : cellsP (a ++ b) = cellsP a ++ cellsP b := by unfold cellsP; rw [List.flatMap_append]
theorem eltP : Elt Tryd.prog 43 48 (.agg #[.string ⟨#[]⟩, .int .i64 0]) 2 24 := elt_mk (z := .agg #[.string ⟨#[]⟩, .int .i64 0]) Tryd.underlying43 (by kernel_rfl) rfl (by omega) (by omega)
/-- a slice of steps -/
def Stp (w : World) (lo B : Nat) (v : Value) (l : List (List UInt8 × Int)) : Prop := ∃ A cap, v = .slice A l.length cap ∧ Rd w lo B 2 A l.length (cellsP l)
theorem Stp.below {w w' : World} {lo B : Nat} {v : Value} {l : List (List UInt8 × Int)} (h : Stp w lo B v l) (hb : Below B w w') : Stp w' lo B v l := by
  obtain ⟨A, cap, e, h⟩ := h
  exact ⟨A, cap, e, h.below hb⟩
theorem Stp.more {w : World} {lo lo' B B' : Nat} {v : Value} {l : List (List UInt8 × Int)} (h : Stp w lo B v l) (hl : lo' ≤ lo) (hB : B ≤ B') : Stp w lo' B' v l := by
  obtain ⟨A, cap, e, h⟩ := h
  exact ⟨A, cap, e, h.more hl hB⟩
def stepsO (o : Option T) : List (List UInt8 × Int) := match o with | none => [] | some t => t.steps
def FltB (w : World) (B : Nat) (v : Value) (o : Option T) : Prop := Flt w B v o
def StRel (w : World) (t : Option T) (f out : Value) (wr : World) : Prop := ∃ (o : Option T) (A : Option Addr) (cap : Nat) (done : List (List UInt8 × Int)), Flt wr w.heap.size f o ∧ out = .slice A done.length cap ∧
  done ++ stepsO o = stepsO t ∧ wr.ownsRow w.heap.size 48 2 (.slice A done.length cap) done.length (cellsP done) ∧ Below w.heap.size w wr
noncomputable def fLen (w : World) (f : Value) : Nat := errLen w (.iface 34 f)
theorem st_end {w wr : World} {f out : Value} {t : Option T} (h : StRel w t f out wr) (hf : f = .pointer none) : Stp wr w.heap.size wr.heap.size out (stepsO t) ∧ Below w.heap.size w wr := by
  obtain ⟨o, A, cap, done, ho, rfl, hd, hown, hb⟩ := h
  subst hf
  cases o with
  | some u => obtain ⟨b, e, _⟩ := ho; cases e
  | none =>
    have : done = stepsO t := by rw [← hd]; simp [stepsO]
    rw [← this]
    exact ⟨⟨A, cap, rfl, Rd.of_own hown⟩, hb⟩
theorem st_next {w wr w1 : World} {t u u' : Option T} {x : List UInt8 × Int} {A A' : Option Addr} {cap cap' : Nat} {f : Value} {done : List (List UInt8 × Int)}
    (ha : App wr w1 w.heap.size 48 2 A done.length cap A' (done.length + 1) cap' (cellsP done ++ (#[Value.string ⟨x.1.toArray⟩, Value.int .i64 x.2] : Array Value).toList)) (hb : Below w.heap.size w wr)
    (hd : done ++ stepsO u = stepsO t) (hf : Flt w1 w.heap.size f u') (hs : stepsO u = x :: stepsO u') : StRel w t f (.slice A' (done.length + 1) cap') w1 := by
  refine ⟨u', A', cap', done ++ [x], hf, by simp, by rw [← hd, hs]; simp, ?_, hb.trans ha.below⟩
  rw [cellsP_app, List.length_append]
  exact ha.own
theorem fLen_at {w : World} {B b : Nat} {t : T} (h : At w B b t) : fLen w (.pointer (some ⟨b, 0, none⟩)) = 2 * t.size + 1 := errLen_at h
theorem fLen_none (w : World) : fLen w (.pointer none) = 0 := by
  unfold fLen errLen
  rw [dif_neg (by rintro ⟨_, b, _, h, _⟩; simp at h), dif_neg]
  rintro ⟨t, B, h⟩
  cases t with
  | leaf => obtain ⟨g, _, h, _⟩ := h; simp at h
  | wrap => obtain ⟨g, _, _, h, _⟩ := h; simp at h
  | both => obtain ⟨g, _, _, _, h, _⟩ := h; simp at h
theorem fLen_nil {w : World} {B b : Nat} {t : T} (h : At w B b t) (w1 : World) : fLen w1 (.pointer none) < fLen w (.pointer (some ⟨b, 0, none⟩)) := by
  rw [fLen_at h, fLen_none]; omega
theorem fLen_lt {w w1 : World} {B B1 b b1 : Nat} {t t1 : T} (h : At w B b t) (h1 : At w1 B1 b1 t1) (hs : t1.size < t.size) : fLen w1 (.pointer (some ⟨b1, 0, none⟩)) < fLen w (.pointer (some ⟨b, 0, none⟩)) := by
  rw [fLen_at h, fLen_at h1]; omega
set_option maxHeartbeats 2000000 in
set_option maxRecDepth 100000 in
theorem Steps_any (v : Value) (o : Option T) (w : World) (h : Flt w w.heap.size v o) (hl : (stepsO o).length ≤ 2000000) :
    Calls Tryd.prog 18 #[v] w fun e w' => (∃ v, e = .returned v ∧ Stp w' w.heap.size w'.heap.size v (stepsO o)) ∧ Below w.heap.size w w' := by
  have H0 := Lib.hid (show StRel w o v (.slice none 0 0) w from ⟨o, none, 0, [], h, rfl, by simp, World.ownsRow_nil _ _ _ _, Below.refl _ _⟩)
  have HL := Lib.hid hl
  have f1 := ta_link
  have f2 := ta_pair
  have f3 := ta_pair_no
  clear h hl
  go_enter Tryd.func18, Tryd.ntmps18
  go_wp2_with fail
  go_loopw [0, 3] (fun f out wr => StRel w o f out wr) (fun f _ wr => fLen wr f)
  case atStart => exact H0.out
  case round =>
    clear H0
    have HR := Lib.hid hrel
    obtain ⟨u, A, cap, done, hu, rfl, hd, hown, hb⟩ := hrel
    have hlen : done.length ≤ 2000000 := by
      have := HL.out
      rw [← hd, List.length_append] at this
      omega
    have hsz := hb.size
    have HD := Lib.hid hd
    have HO := Lib.hid hown
    have HB := Lib.hid hb
    clear hd hown hb
    cases u with
    | none =>
      obtain rfl := hu
      have HE := Lib.hid (st_end HR.out rfl)
      clear HR
      go_wp2_with fail
      go_ret
      exact ⟨⟨_, rfl, HE.out.1⟩, HE.out.2⟩
    | some u =>
      obtain ⟨b, rfl, hAt⟩ := hu
      have HAt := Lib.hid hAt
      clear HR HL
      cases u with
      | leaf op at_ c =>
        obtain ⟨g, h1, h2, h3, h4, h5, h6, h7⟩ := hAt
        go_wp2_with (at_builtin; refine app1 _ _ rfl (.tmp 17) (.tmp 22) _ rfl eltP w.heap.size A done.length cap (cellsP done) rfl HO.out rfl rfl (by simp [Value.oneCell']) (by omega) hsz ?_; intro A' cap' w1 happ; have k7 : w1.cell? ⟨g, 3, none⟩ = some (.pointer none) := (happ.below.cell h2).trans h7)
        go_roundw
        case rel => exact st_next (x := (op, at_)) (u' := none) happ HB.out HD.out rfl (by simp [stepsO, T.steps])
        case measure => exact fLen_nil HAt.out w1
      | wrap op at_ u' =>
        obtain ⟨g, b', h1, h2, h3, h4, h5, h6, h7, h8⟩ := hAt
        have H8 := Lib.hid h8
        clear h8
        go_wp2_with (at_builtin; refine app1 _ _ rfl (.tmp 17) (.tmp 22) _ rfl eltP w.heap.size A done.length cap (cellsP done) rfl HO.out rfl rfl (by simp [Value.oneCell']) (by omega) hsz ?_; intro A' cap' w1 happ; have k7 : w1.cell? ⟨g, 3, none⟩ = some (.pointer (some ⟨b', 0, none⟩)) := (happ.below.cell h2).trans h7)
        go_roundw
        case rel => exact st_next (x := (op, at_)) (u' := some u') happ HB.out HD.out ⟨b', rfl, H8.out.below happ.below⟩ (by simp [stepsO, T.steps])
        case measure => exact fLen_lt HAt.out (H8.out.below happ.below) (by simp [T.size])
      | both x y =>
        obtain ⟨g, b1, b2, h1, h2, h3, h4, h5, h6, h7⟩ := hAt
        have H6 := Lib.hid h6
        clear h6 h7
        go_wp2_with fail
        go_roundw
        case rel => exact ⟨some x, A, cap, done, ⟨b1, rfl, H6.out⟩, rfl, by rw [← HD.out]; simp [stepsO, T.steps], HO.out, HB.out⟩
        case measure => exact fLen_lt HAt.out H6.out (by simp only [T.size]; omega)
end Go.Proofs.YthinjoldbjcifaaDoor.FltS
