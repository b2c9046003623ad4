/- Faults: errors.Is at a code and at a class; fault.Has and Of. -/
import Derived.Test.YthinjoldbjcifaaDoorFltI
namespace Go.Proofs.YthinjoldbjcifaaDoor.FltH
set_option linter.unusedVariables false
open Go.RowKit Go.Stop Go.Extern Base FltM FltW FltX FltI

/-! ### Closed facts: what 'reflectlite.TypeOf(target).Comparable()' gives -/
theorem tyCode (v : Value) (w : World) : (Extern.ReflectliteType.typeOf #[.iface 65 v]).run Tryd.prog w = .ok (.iface 94 (.agg #[.pointer (some ⟨4, 65, none⟩)])) w := by kernel_rfl
theorem tyClass (v : Value) (w : World) : (Extern.ReflectliteType.typeOf #[.iface 66 v]).run Tryd.prog w = .ok (.iface 94 (.agg #[.pointer (some ⟨4, 66, none⟩)])) w := by kernel_rfl
theorem cmpCode (w : World) : ((Extern.ReflectliteType.method fun t => do Go.Extern.Rtype.noPackHeld "Comparable" t; (fun a => Value.bool a.comparable) <$> typeInfo t) #[.agg #[.pointer (some ⟨4, 65, none⟩)]]).run Tryd.prog w = .ok (.bool true) w := by kernel_rfl
theorem cmpClass (w : World) : ((Extern.ReflectliteType.method fun t => do Go.Extern.Rtype.noPackHeld "Comparable" t; (fun a => Value.bool a.comparable) <$> typeInfo t) #[.agg #[.pointer (some ⟨4, 66, none⟩)]]).run Tryd.prog w = .ok (.bool true) w := by kernel_rfl
theorem mCmp (v : Value) (w : World) : (Go.method 255 94 v "Comparable").run Tryd.prog w = .ok (82, v) w := by kernel_rfl

set_option maxHeartbeats 1000000 in
set_option maxRecDepth 100000 in
theorem IsCode_any (k : Int) (t : T) (b : Nat) (w : World) (h : At w w.heap.size b t) :
    Calls Tryd.prog 28 #[.iface 34 (.pointer (some ⟨b, 0, none⟩)), .iface 65 (.int .i64 k)] w fun e w' => e = .returned (.bool (t.codes.any fun c => c != 0 && c == k)) ∧ Below w.heap.size w w' := by
  have x1 := @run_callFunc_extern Tryd.prog 32 _ Extern.ReflectliteType.typeOf Tryd.func32 (by kernel_rfl) (by kernel_rfl) (by kernel_rfl) (by kernel_rfl)
  have x2 := @run_callFunc_extern Tryd.prog 82 _ (Extern.ReflectliteType.method fun t => do Go.Extern.Rtype.noPackHeld "Comparable" t; pure (Value.bool (← typeInfo t).comparable)) Tryd.func82 (by kernel_rfl) (by kernel_rfl) (by kernel_rfl) (by kernel_rfl)
  have f1 := tyCode
  have f2 := cmpCode
  have f3 := mCmp
  have HI := Lib.hid (is_any 65 (.int .i64 k) (fun c => c != 0 && c == k) (by decide) (by decide) (by decide) (by simp) (fun g c w hc => isCode g c k w hc) t.size t (Nat.le_refl _) b)
  have H := Lib.hid h
  clear h
  go_enter Tryd.func28, Tryd.ntmps28
  go_wp2_with fail
  refine (HI.out _ H.out).mono ?_
  rintro e w1 ⟨rfl, hb1⟩
  go_wp2
  go_ret
  exact ⟨rfl, hb1⟩
set_option maxHeartbeats 1000000 in
set_option maxRecDepth 100000 in
theorem IsClass_any (k : Int) (t : T) (b : Nat) (w : World) (h : At w w.heap.size b t) :
    Calls Tryd.prog 28 #[.iface 34 (.pointer (some ⟨b, 0, none⟩)), .iface 66 (.int .i64 k)] w fun e w' => e = .returned (.bool (t.codes.any fun c => c != 0 && classV c == k)) ∧ Below w.heap.size w w' := by
  have x1 := @run_callFunc_extern Tryd.prog 32 _ Extern.ReflectliteType.typeOf Tryd.func32 (by kernel_rfl) (by kernel_rfl) (by kernel_rfl) (by kernel_rfl)
  have x2 := @run_callFunc_extern Tryd.prog 82 _ (Extern.ReflectliteType.method fun t => do Go.Extern.Rtype.noPackHeld "Comparable" t; pure (Value.bool (← typeInfo t).comparable)) Tryd.func82 (by kernel_rfl) (by kernel_rfl) (by kernel_rfl) (by kernel_rfl)
  have f1 := tyClass
  have f2 := cmpClass
  have f3 := mCmp
  have HI := Lib.hid (is_any 66 (.int .i64 k) (fun c => c != 0 && classV c == k) (by decide) (by decide) (by decide) (by simp) (fun g c w hc => isClass g c k w hc) t.size t (Nat.le_refl _) b)
  have H := Lib.hid h
  clear h
  go_enter Tryd.func28, Tryd.ntmps28
  go_wp2_with fail
  refine (HI.out _ H.out).mono ?_
  rintro e w1 ⟨rfl, hb1⟩
  go_wp2
  go_ret
  exact ⟨rfl, hb1⟩
theorem hit_has {t : T} (h : t.fits) (f : Int → Bool) : (t.codes.any fun c => c != 0 && f c) = t.codes.any f := by
  induction t with
  | leaf op at_ c => simp [T.codes, h.2.2.2]
  | wrap op at_ u ih => exact ih h.2.2
  | both a b iha ihb => simp only [T.codes, List.any_append]; rw [iha h.1, ihb h.2]
/-- is a code in a fault? is a class? nil has none -/
def hasO (o : Option T) (k : Int) : Bool := match o with | none => false | some t => t.has k
def ofO (o : Option T) (k : Int) : Bool := match o with | none => false | some t => t.of_ k
def fitsO (o : Option T) : Prop := match o with | none => True | some t => t.fits
set_option maxRecDepth 100000 in
theorem Has_any (v : Value) (o : Option T) (k : Int) (w : World) (h : Flt w w.heap.size v o) (hf : fitsO o) :
    Calls Tryd.prog 12 #[v, .int .i64 k] w fun e w' => e = .returned (.bool (hasO o k)) ∧ Below w.heap.size w w' := by
  cases o with
  | none =>
    rw [show v = .pointer none from h]
    go_enter Tryd.func12, Tryd.ntmps12
    go_wp2_with fail
    go_ret
    exact ⟨rfl, Below.refl _ _⟩
  | some t =>
    obtain ⟨b, rfl, hb⟩ := h
    have HI := Lib.hid (IsCode_any k t b w hb)
    have HE := Lib.hid (hit_has hf (fun c => c == k))
    clear hb hf
    go_enter Tryd.func12, Tryd.ntmps12
    go_wp2_with fail
    refine HI.out.mono ?_
    rintro e w1 ⟨rfl, hb1⟩
    go_wp2_with fail
    go_ret
    exact ⟨ret_bool (by rw [HE.out]; rfl), hb1⟩
set_option maxRecDepth 100000 in
theorem Of_any (v : Value) (o : Option T) (k : Int) (w : World) (h : Flt w w.heap.size v o) (hf : fitsO o) :
    Calls Tryd.prog 13 #[v, .int .i64 k] w fun e w' => e = .returned (.bool (ofO o k)) ∧ Below w.heap.size w w' := by
  cases o with
  | none =>
    rw [show v = .pointer none from h]
    go_enter Tryd.func13, Tryd.ntmps13
    go_wp2_with fail
    go_ret
    exact ⟨rfl, Below.refl _ _⟩
  | some t =>
    obtain ⟨b, rfl, hb⟩ := h
    have HI := Lib.hid (IsClass_any k t b w hb)
    have HE := Lib.hid (hit_has hf (fun c => classV c == k))
    clear hb hf
    go_enter Tryd.func13, Tryd.ntmps13
    go_wp2_with fail
    refine HI.out.mono ?_
    rintro e w1 ⟨rfl, hb1⟩
    go_wp2_with fail
    go_ret
    exact ⟨ret_bool (by rw [HE.out]; rfl), hb1⟩
end Go.Proofs.YthinjoldbjcifaaDoor.FltH
