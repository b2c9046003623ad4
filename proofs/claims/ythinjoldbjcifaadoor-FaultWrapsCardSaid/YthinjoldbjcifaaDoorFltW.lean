/- Faults in memory: a fault at a block reads as a tree; fault.New, Wrap, Both; what the methods lead to. -/
import Derived.Test.YthinjoldbjcifaaDoorRows
import Derived.Test.YthinjoldbjcifaaDoorBase
import Derived.Test.YthinjoldbjcifaaDoorFltM
namespace Go.Proofs.YthinjoldbjcifaaDoor.FltW
set_option linter.unusedVariables false
open Go.RowKit Base FltM

/-- the fault at block b reads as t; all of it lies below B -/
def At (w : World) (B : Nat) : Nat → T → Prop
  | b, .leaf op at_ c => ∃ g, b < B ∧ g < B ∧ w.cell? ⟨b, 0, none⟩ = some (.iface 67 (.pointer (some ⟨g, 0, none⟩))) ∧ w.cell? ⟨g, 0, none⟩ = some (.string ⟨op.toArray⟩) ∧ w.cell? ⟨g, 1, none⟩ = some (.int .i64 at_) ∧
      w.cell? ⟨g, 2, none⟩ = some (.int .i64 c) ∧ w.cell? ⟨g, 3, none⟩ = some (.pointer none)
  | b, .wrap op at_ u => ∃ g b', b < B ∧ g < B ∧ w.cell? ⟨b, 0, none⟩ = some (.iface 67 (.pointer (some ⟨g, 0, none⟩))) ∧ w.cell? ⟨g, 0, none⟩ = some (.string ⟨op.toArray⟩) ∧ w.cell? ⟨g, 1, none⟩ = some (.int .i64 at_) ∧
      w.cell? ⟨g, 2, none⟩ = some (.int .i64 0) ∧ w.cell? ⟨g, 3, none⟩ = some (.pointer (some ⟨b', 0, none⟩)) ∧ At w B b' u
  | b, .both x y => ∃ g b1 b2, b < B ∧ g < B ∧ w.cell? ⟨b, 0, none⟩ = some (.iface 72 (.pointer (some ⟨g, 0, none⟩))) ∧ w.cell? ⟨g, 0, none⟩ = some (.pointer (some ⟨b1, 0, none⟩)) ∧
      w.cell? ⟨g, 1, none⟩ = some (.pointer (some ⟨b2, 0, none⟩)) ∧ At w B b1 x ∧ At w B b2 y
theorem At.below {w w' : World} {B : Nat} (hb : Below B w w') : ∀ {t : T} {b : Nat}, At w B b t → At w' B b t
  | .leaf op at_ c, b, ⟨g, h1, h2, h3, h4, h5, h6, h7⟩ => ⟨g, h1, h2, (hb.cell h1).trans h3, (hb.cell h2).trans h4, (hb.cell h2).trans h5, (hb.cell h2).trans h6, (hb.cell h2).trans h7⟩
  | .wrap op at_ u, b, ⟨g, b', h1, h2, h3, h4, h5, h6, h7, h8⟩ => ⟨g, b', h1, h2, (hb.cell h1).trans h3, (hb.cell h2).trans h4, (hb.cell h2).trans h5, (hb.cell h2).trans h6, (hb.cell h2).trans h7, At.below hb h8⟩
  | .both x y, b, ⟨g, b1, b2, h1, h2, h3, h4, h5, h6, h7⟩ => ⟨g, b1, b2, h1, h2, (hb.cell h1).trans h3, (hb.cell h2).trans h4, (hb.cell h2).trans h5, At.below hb h6, At.below hb h7⟩
theorem At.more {w : World} {B B' : Nat} (hB : B ≤ B') : ∀ {t : T} {b : Nat}, At w B b t → At w B' b t
  | .leaf op at_ c, b, ⟨g, h1, h2, h⟩ => ⟨g, by omega, by omega, h⟩
  | .wrap op at_ u, b, ⟨g, b', h1, h2, h3, h4, h5, h6, h7, h8⟩ => ⟨g, b', by omega, by omega, h3, h4, h5, h6, h7, At.more hB h8⟩
  | .both x y, b, ⟨g, b1, b2, h1, h2, h3, h4, h5, h6, h7⟩ => ⟨g, b1, b2, by omega, by omega, h3, h4, h5, At.more hB h6, At.more hB h7⟩
theorem At.up {w w' : World} {t : T} {b : Nat} (h : At w w.heap.size b t) (hb : Below w.heap.size w w') : At w' w'.heap.size b t := (h.below hb).more hb.size
theorem At.lt {w : World} {B : Nat} : ∀ {t : T} {b : Nat}, At w B b t → b < B
  | .leaf _ _ _, _, ⟨_, h, _⟩ => h
  | .wrap _ _ _, _, ⟨_, _, h, _⟩ => h
  | .both _ _, _, ⟨_, _, _, h, _⟩ => h
/-- what lies in a fault reads as t -/
def Node (w : World) (B : Nat) : Value → T → Prop
  | E, .leaf op at_ c => ∃ g, g < B ∧ E = .iface 67 (.pointer (some ⟨g, 0, none⟩)) ∧ w.cell? ⟨g, 0, none⟩ = some (.string ⟨op.toArray⟩) ∧ w.cell? ⟨g, 1, none⟩ = some (.int .i64 at_) ∧
      w.cell? ⟨g, 2, none⟩ = some (.int .i64 c) ∧ w.cell? ⟨g, 3, none⟩ = some (.pointer none)
  | E, .wrap op at_ u => ∃ g b', g < B ∧ E = .iface 67 (.pointer (some ⟨g, 0, none⟩)) ∧ w.cell? ⟨g, 0, none⟩ = some (.string ⟨op.toArray⟩) ∧ w.cell? ⟨g, 1, none⟩ = some (.int .i64 at_) ∧
      w.cell? ⟨g, 2, none⟩ = some (.int .i64 0) ∧ w.cell? ⟨g, 3, none⟩ = some (.pointer (some ⟨b', 0, none⟩)) ∧ At w B b' u
  | E, .both x y => ∃ g b1 b2, g < B ∧ E = .iface 72 (.pointer (some ⟨g, 0, none⟩)) ∧ w.cell? ⟨g, 0, none⟩ = some (.pointer (some ⟨b1, 0, none⟩)) ∧
      w.cell? ⟨g, 1, none⟩ = some (.pointer (some ⟨b2, 0, none⟩)) ∧ At w B b1 x ∧ At w B b2 y
theorem At.node {w : World} {B : Nat} : ∀ {t : T} {b : Nat}, At w B b t → b < B ∧ ∃ E, w.cell? ⟨b, 0, none⟩ = some E ∧ Node w B E t
  | .leaf _ _ _, _, ⟨g, h1, h2, h3, h⟩ => ⟨h1, _, h3, g, h2, rfl, h⟩
  | .wrap _ _ _, _, ⟨g, b', h1, h2, h3, h⟩ => ⟨h1, _, h3, g, b', h2, rfl, h⟩
  | .both _ _, _, ⟨g, b1, b2, h1, h2, h3, h⟩ => ⟨h1, _, h3, g, b1, b2, h2, rfl, h⟩
theorem op_inj {a b : List UInt8} (h : (some (Value.string ⟨a.toArray⟩) : Option Value) = some (.string ⟨b.toArray⟩)) : a = b := by
  simpa using h
theorem At.unique {w : World} {B B' : Nat} : ∀ {t t' : T} {b : Nat}, At w B b t → At w B' b t' → t = t'
  | .leaf op at_ c, .leaf op' at_' c', b, ⟨g, _, _, h3, h4, h5, h6, h7⟩, ⟨g', _, _, k3, k4, k5, k6, k7⟩ => by
    rw [h3] at k3
    simp at k3
    subst k3
    rw [h4] at k4; rw [h5] at k5; rw [h6] at k6
    have := op_inj k4
    simp at k5 k6
    rw [this, k5, k6]
  | .leaf op at_ c, .wrap op' at_' u', b, ⟨g, _, _, h3, h4, h5, h6, h7⟩, ⟨g', b', _, _, k3, k4, k5, k6, k7, k8⟩ => by
    rw [h3] at k3
    simp at k3
    subst k3
    rw [h7] at k7; cases k7
  | .leaf op at_ c, .both x' y', b, ⟨g, _, _, h3, h4, h5, h6, h7⟩, ⟨g', b1', b2', _, _, k3, k4, k5, k6, k7⟩ => by
    rw [h3] at k3
    simp at k3
  | .wrap op at_ u, .leaf op' at_' c', b, ⟨g, b0, _, _, h3, h4, h5, h6, h7, h8⟩, ⟨g', _, _, k3, k4, k5, k6, k7⟩ => by
    rw [h3] at k3
    simp at k3
    subst k3
    rw [h7] at k7; cases k7
  | .wrap op at_ u, .wrap op' at_' u', b, ⟨g, b0, _, _, h3, h4, h5, h6, h7, h8⟩, ⟨g', b', _, _, k3, k4, k5, k6, k7, k8⟩ => by
    rw [h3] at k3
    simp at k3
    subst k3
    rw [h4] at k4; rw [h5] at k5; rw [h7] at k7
    have e1 := op_inj k4
    simp at k5 k7
    subst k7
    rw [e1, k5, At.unique h8 k8]
  | .wrap op at_ u, .both x' y', b, ⟨g, b0, _, _, h3, h4, h5, h6, h7, h8⟩, ⟨g', b1', b2', _, _, k3, k4, k5, k6, k7⟩ => by
    rw [h3] at k3
    simp at k3
  | .both x y, .leaf op' at_' c', b, ⟨g, b1, b2, _, _, h3, h4, h5, h6, h7⟩, ⟨g', _, _, k3, k4, k5, k6, k7⟩ => by
    rw [h3] at k3
    simp at k3
  | .both x y, .wrap op' at_' u', b, ⟨g, b1, b2, _, _, h3, h4, h5, h6, h7⟩, ⟨g', b', _, _, k3, k4, k5, k6, k7, k8⟩ => by
    rw [h3] at k3
    simp at k3
  | .both x y, .both x' y', b, ⟨g, b1, b2, _, _, h3, h4, h5, h6, h7⟩, ⟨g', b1', b2', _, _, k3, k4, k5, k6, k7⟩ => by
    rw [h3] at k3
    simp at k3
    subst k3
    rw [h4] at k4; rw [h5] at k5
    simp at k4 k5
    subst k4; subst k5
    rw [At.unique h6 k6, At.unique h7 k7]
/-- an error value that leads to a fault's tree: the fault itself, or what lies in it -/
def Err (w : World) (B : Nat) (E : Value) (t : T) : Prop := (∃ b, E = .iface 34 (.pointer (some ⟨b, 0, none⟩)) ∧ At w B b t) ∨ Node w B E t
theorem Node.unique {w : World} {B B' : Nat} {t t' : T} {E : Value} (h : Node w B E t) (h' : Node w B' E t') : t = t' := by
  cases t with
  | leaf op at_ c =>
    obtain ⟨g, _, rfl, h4, h5, h6, h7⟩ := h
    cases t' with
    | leaf op' at_' c' =>
      obtain ⟨g', _, k3, k4, k5, k6, k7⟩ := h'
      simp at k3
      subst k3
      rw [h4] at k4; rw [h5] at k5; rw [h6] at k6
      have := op_inj k4
      simp at k5 k6
      rw [this, k5, k6]
    | wrap op' at_' u' =>
      obtain ⟨g', b', _, k3, k4, k5, k6, k7, k8⟩ := h'
      simp at k3
      subst k3
      rw [h7] at k7; cases k7
    | both x' y' => obtain ⟨g', b1', b2', _, k3, k4, k5, k6, k7⟩ := h'; simp at k3
  | wrap op at_ u =>
    obtain ⟨g, b0, _, rfl, h4, h5, h6, h7, h8⟩ := h
    cases t' with
    | leaf op' at_' c' =>
      obtain ⟨g', _, k3, k4, k5, k6, k7⟩ := h'
      simp at k3
      subst k3
      rw [h7] at k7; cases k7
    | wrap op' at_' u' =>
      obtain ⟨g', b', _, k3, k4, k5, k6, k7, k8⟩ := h'
      simp at k3
      subst k3
      rw [h4] at k4; rw [h5] at k5; rw [h7] at k7
      have e1 := op_inj k4
      simp at k5 k7
      subst k7
      rw [e1, k5, At.unique h8 k8]
    | both x' y' => obtain ⟨g', b1', b2', _, k3, k4, k5, k6, k7⟩ := h'; simp at k3
  | both x y =>
    obtain ⟨g, b1, b2, _, rfl, h4, h5, h6, h7⟩ := h
    cases t' with
    | leaf op' at_' c' => obtain ⟨g', _, k3, k4, k5, k6, k7⟩ := h'; simp at k3
    | wrap op' at_' u' => obtain ⟨g', b', _, k3, k4, k5, k6, k7, k8⟩ := h'; simp at k3
    | both x' y' =>
      obtain ⟨g', b1', b2', _, k3, k4, k5, k6, k7⟩ := h'
      simp at k3
      subst k3
      rw [h4] at k4; rw [h5] at k5
      simp at k4 k5
      subst k4; subst k5
      rw [At.unique h6 k6, At.unique h7 k7]
open Classical in
/-- how many steps are left from an error value: the measure of errors.is -/
noncomputable def errLen (w : World) (E : Value) : Nat :=
  if h : ∃ t b B, E = .iface 34 (.pointer (some ⟨b, 0, none⟩)) ∧ At w B b t then 2 * h.choose.size + 1
  else if h : ∃ t B, Node w B E t then 2 * h.choose.size else 0
theorem errLen_at {w : World} {B b : Nat} {t : T} (h : At w B b t) : errLen w (.iface 34 (.pointer (some ⟨b, 0, none⟩))) = 2 * t.size + 1 := by
  have hx : ∃ t b' B, Value.iface 34 (.pointer (some ⟨b, 0, none⟩)) = .iface 34 (.pointer (some ⟨b', 0, none⟩)) ∧ At w B b' t := ⟨t, b, B, rfl, h⟩
  unfold errLen
  rw [dif_pos hx]
  obtain ⟨b', B', e, h'⟩ := hx.choose_spec
  simp at e
  subst e
  rw [At.unique h' h]
theorem Node.not_fault {w : World} {B b : Nat} {t : T} (h : Node w B (.iface 34 (.pointer (some ⟨b, 0, none⟩))) t) : False := by
  cases t with
  | leaf => obtain ⟨g, _, h, _⟩ := h; simp at h
  | wrap => obtain ⟨g, _, _, h, _⟩ := h; simp at h
  | both => obtain ⟨g, _, _, _, h, _⟩ := h; simp at h
theorem errLen_node {w : World} {B : Nat} {E : Value} {t : T} (h : Node w B E t) : errLen w E = 2 * t.size := by
  have hn : ¬ ∃ t b B, E = .iface 34 (.pointer (some ⟨b, 0, none⟩)) ∧ At w B b t := by
    rintro ⟨_, b, _, rfl, _⟩
    exact h.not_fault
  have hx : ∃ t B, Node w B E t := ⟨t, B, h⟩
  unfold errLen
  rw [dif_neg hn, dif_pos hx]
  obtain ⟨B', h'⟩ := hx.choose_spec
  rw [Node.unique h' h]
/-- a fault's pointer: nil, or one that reads as a tree -/
def Flt (w : World) (B : Nat) (v : Value) : Option T → Prop
  | none => v = .pointer none
  | some t => ∃ b, v = .pointer (some ⟨b, 0, none⟩) ∧ At w B b t
theorem Flt.up {w w' : World} {o : Option T} {v : Value} (h : Flt w w.heap.size v o) (hb : Below w.heap.size w w') : Flt w' w'.heap.size v o := by
  cases o with
  | none => exact h
  | some t => obtain ⟨b, e, h⟩ := h; exact ⟨b, e, h.up hb⟩

theorem below_a1 (w : World) (a : Obj) : Below w.heap.size w (w.alloc a) := (Below.refl _ _).alloc (Nat.le_refl _) a
theorem below_a2 (w : World) (a b : Obj) : Below w.heap.size w ((w.alloc a).alloc b) := (below_a1 w a).alloc (by simp) b
theorem bt {w W W' : World} (h : Below W.heap.size W W') (h0 : Below w.heap.size w W) : Below w.heap.size w W' := h0.trans (h.mono h0.size)

theorem New_zero (op : List UInt8) (at_ : Int) (w : World) :
    Calls Tryd.prog 16 #[.string ⟨op.toArray⟩, .int .i64 at_, .int .i64 0] w fun e w' => e = .returned (.pointer none) ∧ Below w.heap.size w w' := by
  go_enter Tryd.func16, Tryd.ntmps16
  go_wp2
  go_ret
  exact ⟨rfl, Below.refl _ _⟩
theorem New_leaf (op : List UInt8) (at_ c : Int) (w : World) (hc : c ≠ 0) :
    Calls Tryd.prog 16 #[.string ⟨op.toArray⟩, .int .i64 at_, .int .i64 c] w fun e w' => (∃ v, e = .returned v ∧ Flt w' w'.heap.size v (some (.leaf op at_ c))) ∧ Below w.heap.size w w' := by
  have hcb : (c == 0) = false := by simpa using hc
  go_enter Tryd.func16, Tryd.ntmps16
  go_wp2
  go_ret
  exact ⟨⟨_, rfl, w.heap.size + 1, rfl, w.heap.size, by simp, by simp; omega, by go_simp, by go_simp, by go_simp, by go_simp, by go_simp⟩, below_a2 _ _ _⟩
/-- what New makes -/
def newT (op : List UInt8) (at_ c : Int) : Option T := if c = 0 then none else some (.leaf op at_ c)
theorem New_any (op : List UInt8) (at_ c : Int) (w : World) :
    Calls Tryd.prog 16 #[.string ⟨op.toArray⟩, .int .i64 at_, .int .i64 c] w fun e w' => (∃ v, e = .returned v ∧ Flt w' w'.heap.size v (newT op at_ c)) ∧ Below w.heap.size w w' := by
  unfold newT
  by_cases hc : c = 0
  · subst hc
    exact (New_zero op at_ w).mono fun e w' ⟨he, hb⟩ => ⟨⟨_, he, rfl⟩, hb⟩
  · rw [if_neg hc]; exact New_leaf op at_ c w hc
theorem Wrap_nil (op : List UInt8) (at_ : Int) (w : World) :
    Calls Tryd.prog 15 #[.string ⟨op.toArray⟩, .int .i64 at_, .pointer none] w fun e w' => e = .returned (.pointer none) ∧ Below w.heap.size w w' := by
  go_enter Tryd.func15, Tryd.ntmps15
  go_wp2
  go_ret
  exact ⟨rfl, Below.refl _ _⟩
theorem Wrap_some (op : List UInt8) (at_ : Int) (b : Nat) (u : T) (w : World) (h : At w w.heap.size b u) :
    Calls Tryd.prog 15 #[.string ⟨op.toArray⟩, .int .i64 at_, .pointer (some ⟨b, 0, none⟩)] w fun e w' => (∃ v, e = .returned v ∧ Flt w' w'.heap.size v (some (.wrap op at_ u))) ∧ Below w.heap.size w w' := by
  have H := Lib.hid h
  clear h
  go_enter Tryd.func15, Tryd.ntmps15
  go_wp2
  go_ret
  exact ⟨⟨_, rfl, w.heap.size + 1, rfl, w.heap.size, b, by simp, by simp; omega, by go_simp, by go_simp, by go_simp, by go_simp, by go_simp, H.out.up (below_a2 _ _ _)⟩, below_a2 _ _ _⟩
theorem Wrap_any (op : List UInt8) (at_ : Int) (v : Value) (o : Option T) (w : World) (h : Flt w w.heap.size v o) :
    Calls Tryd.prog 15 #[.string ⟨op.toArray⟩, .int .i64 at_, v] w fun e w' => (∃ v, e = .returned v ∧ Flt w' w'.heap.size v (o.map (T.wrap op at_))) ∧ Below w.heap.size w w' := by
  cases o with
  | none =>
    rw [show v = .pointer none from h]
    exact (Wrap_nil op at_ w).mono fun e w' ⟨he, hb⟩ => ⟨⟨_, he, rfl⟩, hb⟩
  | some t => obtain ⟨b, rfl, h⟩ := h; exact Wrap_some op at_ b t w h
/-- what Both makes -/
def bothT : Option T → Option T → Option T
  | none, y => y
  | x, none => x
  | some x, some y => some (.both x y)
theorem Both_some (b c : Nat) (x y : T) (w : World) (hx : At w w.heap.size b x) (hy : At w w.heap.size c y) :
    Calls Tryd.prog 25 #[.pointer (some ⟨b, 0, none⟩), .pointer (some ⟨c, 0, none⟩)] w fun e w' => (∃ v, e = .returned v ∧ Flt w' w'.heap.size v (some (.both x y))) ∧ Below w.heap.size w w' := by
  have HX := Lib.hid hx
  have HY := Lib.hid hy
  clear hx hy
  go_enter Tryd.func25, Tryd.ntmps25
  go_wp2
  go_ret
  exact ⟨⟨_, rfl, w.heap.size + 1, rfl, w.heap.size, b, c, by simp, by simp; omega, by go_simp, by go_simp, by go_simp, HX.out.up (below_a2 _ _ _), HY.out.up (below_a2 _ _ _)⟩, below_a2 _ _ _⟩
theorem Both_any (v u : Value) (x y : Option T) (w : World) (hx : Flt w w.heap.size v x) (hy : Flt w w.heap.size u y) :
    Calls Tryd.prog 25 #[v, u] w fun e w' => (∃ v, e = .returned v ∧ Flt w' w'.heap.size v (bothT x y)) ∧ Below w.heap.size w w' := by
  cases x with
  | none =>
    rw [show v = .pointer none from hx]
    go_enter Tryd.func25, Tryd.ntmps25
    go_wp2
    go_ret
    exact ⟨⟨_, rfl, hy⟩, Below.refl _ _⟩
  | some x =>
    obtain ⟨b, rfl, hb⟩ := hx
    cases y with
    | none =>
      rw [show u = .pointer none from hy]
      have HB := Lib.hid hb
      clear hb
      go_enter Tryd.func25, Tryd.ntmps25
      go_wp2
      go_ret
      exact ⟨⟨_, rfl, b, rfl, HB.out⟩, Below.refl _ _⟩
    | some y => obtain ⟨c, rfl, hc⟩ := hy; exact Both_some b c x y w hb hc
end Go.Proofs.YthinjoldbjcifaaDoor.FltW
