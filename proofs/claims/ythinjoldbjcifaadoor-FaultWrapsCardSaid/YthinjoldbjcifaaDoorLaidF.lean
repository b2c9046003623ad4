/- What every tied row of the seat of copselaw04 lists: what its list gives the walks (G), and a world that meets it. -/
import Derived.Test.YthinjoldbjcifaaDoorCards
import Derived.Test.YthinjoldbjcifaaDoorTie
import Derived.Test.YthinjoldbjcifaaDoorFltC
import Derived.Shelf.Vars
import Derived.Stop.LaidErr
import Derived.LaidHandle
import Derived.Deep.DeepHandedRow
import Derived.Deep.DeepWitnessRowRef
import Derived.Lib.LaidTab
import Derived.RowKitTokens
namespace Go.Proofs.YthinjoldbjcifaaDoor.LaidF
set_option linter.unusedVariables false
open Go.ChangeShapes Go.WideShapes Go.ChangeAt Go.RowKit FltC

theorem own : ownKnob Tryd.prog.godebug = none := by kernel_rfl
theorem gTab : Tryd.prog.globalNamed "internal/strconv.uint64pow10" = some 1 := by kernel_rfl
theorem gTabT : (Tryd.prog.globals[1]?).map (·.type) = some 118 := by kernel_rfl
theorem cTab : Tryd.prog.cellsOf 118 = 20 := by kernel_rfl
theorem cU : Tryd.prog.cellsOf 110 = 1 := by kernel_rfl
theorem et : Tryd.prog.globalNamed "errors.errorType" = some 0 := by kernel_rfl
theorem rt : (Tryd.prog.cutTypes.find? (·.1 == "internal/reflectlite.rtype")).map (·.2) = some 94 := by kernel_rfl
theorem oneRow : ((List.range 155).filter fun t => Tryd.prog.rowNamed t [101, 114, 114, 111, 114]) = [40] := by kernel_rfl
theorem size : Tryd.prog.types.size = 155 := by kernel_rfl

theorem G_of_laid {W : World} (h : laidMetH Tryd.prog Rows.faultUnderRow.laid W) : G W := by
  have h' : laidMet Tryd.prog [("math/bits.deBruijn32tab", Rows.laid_math_bits_deBruijn32tab), ("math/bits.deBruijn64tab", Rows.laid_math_bits_deBruijn64tab), ("internal/strconv.uint64pow10", Rows.laid_internal_strconv_uint64pow10)] W
    ∧ handlesMet Tryd.prog [("errors.errorType", Rows.laid_errors_errorType)] W := h
  obtain ⟨name, u, ty, e1, e2, e3, e4, e5⟩ := h'.2 _ (List.mem_singleton.2 rfl)
  have en : name = [101, 114, 114, 111, 114] := (Option.some.inj e1).symm
  subst en
  obtain rfl := Option.some.inj (rt.symm.trans e2)
  have hm : ty ∈ (List.range 155).filter fun t => Tryd.prog.rowNamed t [101, 114, 114, 111, 114] := List.mem_filter.2 ⟨List.mem_range.2 (by rw [← size]; exact e3), e4⟩
  rw [oneRow] at hm
  obtain rfl := List.mem_singleton.1 hm
  have hh : typeHandle Tryd.prog 40 = .pointer (some ⟨4, 40, none⟩) := by kernel_rfl
  rw [hh] at e5
  exact ⟨Lib.tabIs_of_head gTab gTabT Tryd.underlying118 Tryd.underlying110 cU cTab h'.1.tail.tail, by simpa using World.var?_cell et e5 0⟩

/-! ### A world for the witnesses -/
def intsD : DataW Unit → Array Value
  | .agg l => (l.map fun | .lit (.int k z) => Value.int k z | _ => .nilIface).toArray
  | _ => #[]
noncomputable def laidWorld (os : Os) : World :=
  let w0 := World.holding Tryd.prog os ⟨#[], #[], []⟩
  let put (h : Array Obj) (g : Nat) (cs : Array Value) : Array Obj := h.modify g fun
    | .cells _ t frozen => .cells cs t frozen
    | o => o
  let h1 := put w0.heap 2 (intsD Rows.laid_math_bits_deBruijn32tab)
  let h2 := put h1 3 (intsD Rows.laid_math_bits_deBruijn64tab)
  let h3 := put h2 1 (intsD Rows.laid_internal_strconv_uint64pow10)
  let h4 := put h3 0 #[.iface 94 (.agg #[.pointer (some ⟨4, 40, none⟩)])]
  { w0 with heap := h4 }
theorem laid_met (os : Os) (args : Array Value) : laidMetH Tryd.prog Rows.faultUnderRow.laid ((laidWorld os).forCall (fun _ _ => 0) ⟨#[], args, []⟩).memory :=
  laidMetH_of_parts (laidMet_of_run' 8 (by kernel_rfl) (by kernel_rfl)) (by kernel_rfl)
end Go.Proofs.YthinjoldbjcifaaDoor.LaidF
