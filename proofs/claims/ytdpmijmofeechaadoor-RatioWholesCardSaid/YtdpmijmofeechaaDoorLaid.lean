/- What every tied row of this seat lists: what its list gives the walks (G), and a world that meets it. -/
import Derived.Test.YtdpmijmofeechaaDoorCards
import Derived.Test.YtdpmijmofeechaaDoorTie
import Derived.Test.YtdpmijmofeechaaDoorGlob
import Derived.Shelf.Vars
import Derived.Stop.LaidErr
import Derived.Stop.ErrReads
import Derived.Deep.DeepHandedRow
import Derived.Deep.DeepWitnessRowRef
import Derived.Lib.LaidTab
import Derived.RowKitTokens
namespace Go.Proofs.YtdpmijmofeechaaDoor.Laid
set_option linter.unusedVariables false
open Go.ChangeShapes Go.WideShapes Go.ChangeAt Go.RowKit Glob

theorem own : ownKnob Tryd.prog.godebug = none := by kernel_rfl
theorem gTab : Tryd.prog.globalNamed "internal/strconv.uint64pow10" = some 5 := by kernel_rfl
theorem gTabT : (Tryd.prog.globals[5]?).map (·.type) = some 145 := by kernel_rfl
theorem gRng : Tryd.prog.globalNamed "strconv.ErrRange" = some 4 := by kernel_rfl
theorem gRngT : (Tryd.prog.globals[4]?).map (·.type) = some 91 := by kernel_rfl
theorem gSyn : Tryd.prog.globalNamed "strconv.ErrSyntax" = some 3 := by kernel_rfl
theorem gSynT : (Tryd.prog.globals[3]?).map (·.type) = some 91 := by kernel_rfl
theorem cTab : Tryd.prog.cellsOf 145 = 20 := by kernel_rfl
theorem cU : Tryd.prog.cellsOf 80 = 1 := by kernel_rfl
theorem cStr : Tryd.prog.cellsOf 9 = 1 := by kernel_rfl
theorem cErr : Tryd.prog.cellsOf 156 = 1 := by kernel_rfl
theorem star : "*" ++ "errors.errorString" = "*errors.errorString" := by decide
theorem rowErr (u : TypeId) (h : Tryd.prog.typeName? 3 u = some "*errors.errorString") : u = 154 :=
  typeName_ptr_named (nm := "errors.errorString") (by rw [star]; kernel_rfl) (by kernel_rfl) (by decide) u (by rw [star]; exact h)

theorem G_of_laid {W : World} (hS : W.ShapedOpen Tryd.prog) (h : laidMetH Tryd.prog Rows.ratioOrdersRow.laid W) : G W := by
  have h : laidMet Tryd.prog Rows.ratioOrdersRow.laid W := h
  have h3 := h.tail.tail
  obtain ⟨a1, s1, hv1, _⟩ := laid_sentinel h3.tail gRng gRngT Tryd.underlying91 rowErr Tryd.underlying154 Tryd.underlying156 rfl rfl Tryd.underlying9 cErr cStr
  obtain ⟨a2, s2, hv2, _⟩ := laid_sentinel h3.tail.tail gSyn gSynT Tryd.underlying91 rowErr Tryd.underlying154 Tryd.underlying156 rfl rfl Tryd.underlying9 cErr cStr
  refine ⟨Lib.tabIs_of_head gTab gTabT Tryd.underlying145 Tryd.underlying80 cU cTab h3, ?_, ⟨_, _, by simpa using World.var?_cell gSyn hv2 0⟩, ⟨_, _, by simpa using World.var?_cell gRng hv1 0⟩⟩
  exact Go.Proofs.cell_of_shapedOpen_int (t := 3) (zero := #[.int .i64 0]) hS (of_decide_eq_true (by kernel_rfl)) (by kernel_rfl) rfl (by kernel_rfl) (by kernel_rfl) Tryd.underlying3

/-! ### A world for the witnesses -/
def intsD : DataW Unit → Array Value
  | .agg l => (l.map fun | .lit (.int k z) => Value.int k z | _ => .nilIface).toArray
  | _ => #[]
def textD : DataW Unit → ByteArray
  | .iface _ (.ptr (.agg [.lit (.string s)])) => ⟨s.toArray⟩
  | _ => ⟨#[]⟩
noncomputable def low : Nat := (World.holding Tryd.prog default ⟨#[], #[], []⟩).heap.size
noncomputable def laidWorld (os : Os) : World :=
  let w0 := World.holding Tryd.prog os ⟨#[.cells #[.string (textD Rows.laid_strconv_ErrRange)] 156, .cells #[.string (textD Rows.laid_strconv_ErrSyntax)] 156], #[], []⟩
  let put (h : Array Obj) (g : Nat) (cs : Array Value) : Array Obj := h.modify g fun
    | .cells _ t frozen => .cells cs t frozen
    | o => o
  let h1 := put w0.heap 6 (intsD Rows.laid_math_bits_deBruijn32tab)
  let h2 := put h1 7 (intsD Rows.laid_math_bits_deBruijn64tab)
  let h3 := put h2 5 (intsD Rows.laid_internal_strconv_uint64pow10)
  let h4 := put h3 4 #[.iface 154 (.pointer (some ⟨low, 0, none⟩))]
  let h5 := put h4 3 #[.iface 154 (.pointer (some ⟨low + 1, 0, none⟩))]
  { w0 with heap := h5 }
theorem laid_met (os : Os) (args : Array Value) : laidMet Tryd.prog Rows.ratioOrdersRow.laid ((laidWorld os).forCall (fun _ _ => 0) ⟨#[], args, []⟩).memory :=
  laidMet_of_run' 8 (by kernel_rfl) (by kernel_rfl)
end Go.Proofs.YtdpmijmofeechaaDoor.Laid
