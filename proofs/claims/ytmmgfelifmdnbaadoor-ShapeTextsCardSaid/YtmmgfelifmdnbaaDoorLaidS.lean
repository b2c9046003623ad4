/- What every tied row of this seat lists: what its list gives the walks (G), and a world that meets it. -/
import Derived.Test.YtmmgfelifmdnbaaDoorCards
import Derived.Test.YtmmgfelifmdnbaaDoorTie
import Derived.Test.YtmmgfelifmdnbaaDoorGlbS
import Derived.Shelf.Vars
import Derived.Stop.LaidErr
import Derived.Stop.ErrReads
import Derived.Deep.DeepHandedRow
import Derived.Deep.DeepWitnessRowRef
import Derived.Lib.LaidTab
import Derived.RowKitTokens
namespace Go.Proofs.YtmmgfelifmdnbaaDoor.LaidS
set_option linter.unusedVariables false
open Go.ChangeShapes Go.WideShapes Go.ChangeAt Go.RowKit GlbS

theorem own : ownKnob Tryd.prog.godebug = none := by kernel_rfl
theorem gTab : Tryd.prog.globalNamed "internal/strconv.uint64pow10" = some 0 := by kernel_rfl
theorem gTabT : (Tryd.prog.globals[0]?).map (·.type) = some 118 := by kernel_rfl
theorem gRng : Tryd.prog.globalNamed "strconv.ErrRange" = some 2 := by kernel_rfl
theorem gRngT : (Tryd.prog.globals[2]?).map (·.type) = some 68 := by kernel_rfl
theorem gSyn : Tryd.prog.globalNamed "strconv.ErrSyntax" = some 1 := by kernel_rfl
theorem gSynT : (Tryd.prog.globals[1]?).map (·.type) = some 68 := by kernel_rfl
theorem cTab : Tryd.prog.cellsOf 118 = 20 := by kernel_rfl
theorem cU : Tryd.prog.cellsOf 100 = 1 := by kernel_rfl
theorem cStr : Tryd.prog.cellsOf 9 = 1 := by kernel_rfl
theorem cErr : Tryd.prog.cellsOf 134 = 1 := by kernel_rfl
theorem star : "*" ++ "errors.errorString" = "*errors.errorString" := by decide
theorem rowErr (u : TypeId) (h : Tryd.prog.typeName? 3 u = some "*errors.errorString") : u = 132 :=
  typeName_ptr_named (nm := "errors.errorString") (by rw [star]; kernel_rfl) (by kernel_rfl) (by decide) u (by rw [star]; exact h)

theorem G_of_laid {W : World} (hS : W.ShapedOpen Tryd.prog) (h : laidMetH Tryd.prog Rows.shapeTellsRow.laid W) : G W := by
  have h : laidMet Tryd.prog Rows.shapeTellsRow.laid W := h
  have h3 := h.tail.tail
  obtain ⟨a1, s1, hv1, _⟩ := laid_sentinel h3.tail gRng gRngT Tryd.underlying68 rowErr Tryd.underlying132 Tryd.underlying134 rfl rfl Tryd.underlying9 cErr cStr
  obtain ⟨a2, s2, hv2, _⟩ := laid_sentinel h3.tail.tail gSyn gSynT Tryd.underlying68 rowErr Tryd.underlying132 Tryd.underlying134 rfl rfl Tryd.underlying9 cErr cStr
  exact ⟨Lib.tabIs_of_head gTab gTabT Tryd.underlying118 Tryd.underlying100 cU cTab h3, ⟨_, _, by simpa using World.var?_cell gSyn hv2 0⟩, ⟨_, _, by simpa using World.var?_cell gRng hv1 0⟩⟩

/-! ### A world for the witnesses -/
def intsD : DataW Unit → Array Value
  | .agg l => (l.map fun | .lit (.int k z) => Value.int k z | _ => .nilIface).toArray
  | _ => #[]
def textD : DataW Unit → ByteArray
  | .iface _ (.ptr (.agg [.lit (.string s)])) => ⟨s.toArray⟩
  | _ => ⟨#[]⟩
noncomputable def low : Nat := (World.holding Tryd.prog default ⟨#[], #[], []⟩).heap.size
noncomputable def laidWorld (os : Os) : World :=
  let w0 := World.holding Tryd.prog os ⟨#[.cells #[.string (textD Rows.laid_strconv_ErrRange)] 134, .cells #[.string (textD Rows.laid_strconv_ErrSyntax)] 134], #[], []⟩
  let put (h : Array Obj) (g : Nat) (cs : Array Value) : Array Obj := h.modify g fun
    | .cells _ t frozen => .cells cs t frozen
    | o => o
  let h1 := put w0.heap 3 (intsD Rows.laid_math_bits_deBruijn32tab)
  let h2 := put h1 4 (intsD Rows.laid_math_bits_deBruijn64tab)
  let h3 := put h2 0 (intsD Rows.laid_internal_strconv_uint64pow10)
  let h4 := put h3 2 #[.iface 132 (.pointer (some ⟨low, 0, none⟩))]
  let h5 := put h4 1 #[.iface 132 (.pointer (some ⟨low + 1, 0, none⟩))]
  { w0 with heap := h5 }
theorem laid_met (os : Os) (args : Array Value) : laidMet Tryd.prog Rows.shapeTellsRow.laid ((laidWorld os).forCall (fun _ _ => 0) ⟨#[], args, []⟩).memory :=
  laidMet_of_run' 8 (by kernel_rfl) (by kernel_rfl)
end Go.Proofs.YtmmgfelifmdnbaaDoor.LaidS
