/- What every tied row of this seat lists: what its list gives the walks (G), and a world that meets it. -/
import Derived.Test.YtodiipkedhfncaaGreatDoorCards
import Derived.Test.YtodiipkedhfncaaGreatDoorTie
import Derived.Shelf.Vars
import Derived.Stop.LaidErr
import Derived.Stop.ErrReads
import Derived.Deep.DeepHandedRow
import Derived.Deep.DeepWitnessRowRef
import Derived.Lib.LaidTab
import Derived.RowKitTokens
import Derived.Lib.ItoaNum
namespace Go.Proofs.YtodiipkedhfncaaGreatDoor.LaidR
set_option linter.unusedVariables false
open Go.ChangeShapes Go.WideShapes Go.ChangeAt Go.RowKit

theorem own : ownKnob Tryz.prog.godebug = none := by kernel_rfl
theorem gTab : Tryz.prog.globalNamed "internal/strconv.uint64pow10" = some 2 := by kernel_rfl
theorem gTabT : (Tryz.prog.globals[2]?).map (·.type) = some 211 := by kernel_rfl
theorem cTab : Tryz.prog.cellsOf 211 = 20 := by kernel_rfl
theorem cU : Tryz.prog.cellsOf 31 = 1 := by kernel_rfl
/-- what the walks ask of the variables -/
def G (W : World) : Prop := Lib.TabIs Tryz.prog W "internal/strconv.uint64pow10" .u64 Lib.pow10Tab
theorem G_of_laid {W : World} (hS : W.ShapedOpen Tryz.prog) (h : laidMetH Tryz.prog Rows.reportTellsRow.laid W) : G W := by
  have h : laidMet Tryz.prog Rows.reportTellsRow.laid W := h
  have h3 := h.tail.tail
  exact Lib.tabIs_of_head gTab gTabT Tryz.underlying211 Tryz.underlying31 cU cTab h3

/-! ### A world for the witnesses -/
def intsD : DataW Unit → Array Value
  | .agg l => (l.map fun | .lit (.int k z) => Value.int k z | _ => .nilIface).toArray
  | _ => #[]
def textD : DataW Unit → ByteArray
  | .iface _ (.ptr (.agg [.lit (.string s)])) => ⟨s.toArray⟩
  | _ => ⟨#[]⟩
noncomputable def low : Nat := (World.holding Tryz.prog default ⟨#[], #[], []⟩).heap.size
noncomputable def laidWorld (os : Os) : World :=
  let w0 := World.holding Tryz.prog os ⟨#[], #[], []⟩
  let put (h : Array Obj) (g : Nat) (cs : Array Value) : Array Obj := h.modify g fun
    | .cells _ t frozen => .cells cs t frozen
    | o => o
  let h1 := put w0.heap 3 (intsD Rows.laid_math_bits_deBruijn32tab)
  let h2 := put h1 4 (intsD Rows.laid_math_bits_deBruijn64tab)
  let h3 := put h2 2 (intsD Rows.laid_internal_strconv_uint64pow10)
  { w0 with heap := h3 }
theorem laid_met (os : Os) (args : Array Value) : laidMet Tryz.prog Rows.reportTellsRow.laid ((laidWorld os).forCall (fun _ _ => 0) ⟨#[], args, []⟩).memory :=
  laidMet_of_run' 8 (by kernel_rfl) (by kernel_rfl)
end Go.Proofs.YtodiipkedhfncaaGreatDoor.LaidR
