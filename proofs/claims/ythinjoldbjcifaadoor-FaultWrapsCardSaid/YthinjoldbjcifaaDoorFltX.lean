/- Faults: fault.Class, the methods Unwrap and Is, errors.is and errors.Is at a code and at a class; fault.Has, Of. -/
import Derived.Test.YthinjoldbjcifaaDoorFltW
import Derived.LaidEql
import Derived.Stop.Asserts
import Derived.RowKitTokens
namespace Go.Proofs.YthinjoldbjcifaaDoor.FltX
set_option linter.unusedVariables false
open Go.RowKit Go.Stop Go.Extern Base FltM FltW

theorem Class_any (c : Int) (w : World) : Calls Tryd.prog 14 #[.int .i64 c] w fun e w' => e = .returned (.int .i64 (classV c)) ∧ w' = w := by
  by_cases h0 : c = 0
  · subst h0
    go_enter Tryd.func14, Tryd.ntmps14
    go_wp2
    go_ret
    exact ⟨rfl, rfl⟩
  by_cases h60 : c = 60
  · subst h60
    go_enter Tryd.func14, Tryd.ntmps14
    go_wp2
    go_ret
    exact ⟨rfl, rfl⟩
  by_cases h61 : c = 61
  · subst h61
    go_enter Tryd.func14, Tryd.ntmps14
    go_wp2
    go_ret
    exact ⟨rfl, rfl⟩
  by_cases h2 : c = 2
  · subst h2
    go_enter Tryd.func14, Tryd.ntmps14
    go_wp2
    go_ret
    exact ⟨rfl, rfl⟩
  by_cases h8 : c = 8
  · subst h8
    go_enter Tryd.func14, Tryd.ntmps14
    go_wp2
    go_ret
    exact ⟨rfl, rfl⟩
  by_cases h6 : c = 6
  · subst h6
    go_enter Tryd.func14, Tryd.ntmps14
    go_wp2
    go_ret
    exact ⟨rfl, rfl⟩
  by_cases h7 : c = 7
  · subst h7
    go_enter Tryd.func14, Tryd.ntmps14
    go_wp2
    go_ret
    exact ⟨rfl, rfl⟩
  by_cases h20 : c = 20
  · subst h20
    go_enter Tryd.func14, Tryd.ntmps14
    go_wp2
    go_ret
    exact ⟨rfl, rfl⟩
  by_cases h210 : c = 210
  · subst h210
    go_enter Tryd.func14, Tryd.ntmps14
    go_wp2
    go_ret
    exact ⟨rfl, rfl⟩
  by_cases h211 : c = 211
  · subst h211
    go_enter Tryd.func14, Tryd.ntmps14
    go_wp2
    go_ret
    exact ⟨rfl, rfl⟩
  by_cases h240 : c = 240
  · subst h240
    go_enter Tryd.func14, Tryd.ntmps14
    go_wp2
    go_ret
    exact ⟨rfl, rfl⟩
  by_cases h270 : c = 270
  · subst h270
    go_enter Tryd.func14, Tryd.ntmps14
    go_wp2
    go_ret
    exact ⟨rfl, rfl⟩
  by_cases h350 : c = 350
  · subst h350
    go_enter Tryd.func14, Tryd.ntmps14
    go_wp2
    go_ret
    exact ⟨rfl, rfl⟩
  have F := Lib.hid (show classV c = 1 by unfold classV; simp [h0, h60, h61, h2, h8, h6, h7, h20, h210, h211, h240, h270, h350])
  have b0 : (c == 0) = false := by simpa using h0
  have b60 : (c == 60) = false := by simpa using h60
  have b61 : (c == 61) = false := by simpa using h61
  have b2 : (c == 2) = false := by simpa using h2
  have b8 : (c == 8) = false := by simpa using h8
  have b6 : (c == 6) = false := by simpa using h6
  have b7 : (c == 7) = false := by simpa using h7
  have b20 : (c == 20) = false := by simpa using h20
  have b210 : (c == 210) = false := by simpa using h210
  have b211 : (c == 211) = false := by simpa using h211
  have b240 : (c == 240) = false := by simpa using h240
  have b270 : (c == 270) = false := by simpa using h270
  have b350 : (c == 350) = false := by simpa using h350
  go_enter Tryd.func14, Tryd.ntmps14
  go_wp2
  go_ret
  exact ⟨ret_int F.out.symm, rfl⟩
/-- (*Fault).Unwrap -/
theorem Unwrap_at (b : Nat) (E : Value) (w : World) (h : w.cell? ⟨b, 0, none⟩ = some E) :
    Calls Tryd.prog 17 #[.pointer (some ⟨b, 0, none⟩)] w fun e w' => e = .returned E ∧ w' = w := by
  go_enter Tryd.func17, Tryd.ntmps17
  go_wp2
  go_ret
  exact ⟨rfl, rfl⟩
theorem Unwrap_nil (w : World) : Calls Tryd.prog 17 #[.pointer none] w fun e w' => e = .returned .nilIface ∧ w' = w := by
  go_enter Tryd.func17, Tryd.ntmps17
  go_wp2
  go_ret
  exact ⟨rfl, rfl⟩
/-- (*link).Unwrap -/
theorem lUnwrap_nil (g : Nat) (w : World) (h : w.cell? ⟨g, 3, none⟩ = some (.pointer none)) :
    Calls Tryd.prog 74 #[.pointer (some ⟨g, 0, none⟩)] w fun e w' => e = .returned .nilIface ∧ w' = w := by
  go_enter Tryd.func74, Tryd.ntmps74
  go_wp2
  go_ret
  exact ⟨rfl, rfl⟩
theorem lUnwrap_at (g b : Nat) (w : World) (h : w.cell? ⟨g, 3, none⟩ = some (.pointer (some ⟨b, 0, none⟩))) :
    Calls Tryd.prog 74 #[.pointer (some ⟨g, 0, none⟩)] w fun e w' => e = .returned (.iface 34 (.pointer (some ⟨b, 0, none⟩))) ∧ w' = w := by
  go_enter Tryd.func74, Tryd.ntmps74
  go_wp2
  go_ret
  exact ⟨rfl, rfl⟩
/-! ### Closed facts: what the assertions to concrete types give -/
theorem ta_code (v : Value) (w : World) : (Instr.typeAssert (.iface 65 v) 40 65 true).run Tryd.prog w = .ok (.tuple #[v, .bool true]) w := by kernel_rfl
theorem ta_class (v : Value) (w : World) : (Instr.typeAssert (.iface 66 v) 40 66 true).run Tryd.prog w = .ok (.tuple #[v, .bool true]) w := by kernel_rfl
theorem ta_class_no (v : Value) (w : World) : (Instr.typeAssert (.iface 66 v) 40 65 true).run Tryd.prog w = .ok (.tuple #[.int .i64 0, .bool false]) w := by kernel_rfl
theorem ta_link (v : Value) (w : World) : (Instr.typeAssert (.iface 67 v) 40 67 true).run Tryd.prog w = .ok (.tuple #[v, .bool true]) w := by kernel_rfl
theorem ta_pair (v : Value) (w : World) : (Instr.typeAssert (.iface 72 v) 40 72 true).run Tryd.prog w = .ok (.tuple #[v, .bool true]) w := by kernel_rfl
theorem ta_link_no (v : Value) (w : World) : (Instr.typeAssert (.iface 67 v) 40 72 true).run Tryd.prog w = .ok (.tuple #[.pointer none, .bool false]) w := by kernel_rfl
theorem ta_pair_no (v : Value) (w : World) : (Instr.typeAssert (.iface 72 v) 40 67 true).run Tryd.prog w = .ok (.tuple #[.pointer none, .bool false]) w := by kernel_rfl
set_option maxRecDepth 100000 in
/-- (*link).Is at a code -/
theorem isCode (g : Nat) (c k : Int) (w : World) (h : w.cell? ⟨g, 2, none⟩ = some (.int .i64 c)) :
    Calls Tryd.prog 73 #[.pointer (some ⟨g, 0, none⟩), .iface 65 (.int .i64 k)] w fun e w' => e = .returned (.bool (c != 0 && c == k)) ∧ w' = w := by
  have f1 := ta_code
  have f2 := ta_class
  have f3 := ta_class_no
  by_cases hc : c = 0
  · subst hc
    go_enter Tryd.func73, Tryd.ntmps73
    go_wp2
    go_ret
    exact ⟨rfl, rfl⟩
  · have hb : (c != 0) = true := by simpa using hc
    have hb2 : (c == 0) = false := by simpa using hc
    go_enter Tryd.func73, Tryd.ntmps73
    go_wp2
    go_ret
    exact ⟨ret_bool (by first | rfl | simp [hb]), rfl⟩
set_option maxRecDepth 100000 in
/-- (*link).Is at a class -/
theorem isClass (g : Nat) (c k : Int) (w : World) (h : w.cell? ⟨g, 2, none⟩ = some (.int .i64 c)) :
    Calls Tryd.prog 73 #[.pointer (some ⟨g, 0, none⟩), .iface 66 (.int .i64 k)] w fun e w' => e = .returned (.bool (c != 0 && classV c == k)) ∧ w' = w := by
  have f1 := ta_code
  have f2 := ta_class
  have f3 := ta_class_no
  by_cases hc : c = 0
  · subst hc
    go_enter Tryd.func73, Tryd.ntmps73
    go_wp2
    go_ret
    exact ⟨rfl, rfl⟩
  · have hb : (c != 0) = true := by simpa using hc
    have hb2 : (c == 0) = false := by simpa using hc
    go_enter Tryd.func73, Tryd.ntmps73
    go_wp2_with fail
    refine (Class_any c _).mono ?_
    rintro e w1 ⟨rfl, rfl⟩
    go_wp2
    go_ret
    exact ⟨ret_bool (by first | rfl | simp [hb]), rfl⟩
end Go.Proofs.YthinjoldbjcifaaDoor.FltX
