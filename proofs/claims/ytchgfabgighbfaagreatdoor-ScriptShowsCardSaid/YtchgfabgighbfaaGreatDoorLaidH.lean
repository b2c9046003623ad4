/- What every tied row of this seat lists: what its list gives the walks (G), and a world that meets it. -/
import Derived.Test.YtchgfabgighbfaaGreatDoorCards
import Derived.Test.YtchgfabgighbfaaGreatDoorTie
import Derived.Test.YtchgfabgighbfaaGreatDoorGlbD
import Derived.Shelf.Vars
import Derived.Stop.LaidErr
import Derived.Stop.ErrReads
import Derived.Deep.DeepHandedRow
import Derived.Deep.DeepWitnessRowRef
import Derived.Lib.LaidTab
import Derived.RowKitTokens
namespace Go.Proofs.YtchgfabgighbfaaGreatDoor.LaidH
set_option linter.unusedVariables false
open Go.ChangeShapes Go.WideShapes Go.ChangeAt Go.RowKit GlbD

theorem own : ownKnob Tryz.prog.godebug = none := by kernel_rfl
theorem gTab : Tryz.prog.globalNamed "internal/strconv.uint64pow10" = some 1 := by kernel_rfl
theorem gTabT : (Tryz.prog.globals[1]?).map (·.type) = some 130 := by kernel_rfl
theorem gRng : Tryz.prog.globalNamed "strconv.ErrRange" = some 5 := by kernel_rfl
theorem gRngT : (Tryz.prog.globals[5]?).map (·.type) = some 70 := by kernel_rfl
theorem gSyn : Tryz.prog.globalNamed "strconv.ErrSyntax" = some 4 := by kernel_rfl
theorem gSynT : (Tryz.prog.globals[4]?).map (·.type) = some 70 := by kernel_rfl
theorem cTab : Tryz.prog.cellsOf 130 = 20 := by kernel_rfl
theorem cU : Tryz.prog.cellsOf 44 = 1 := by kernel_rfl
theorem cStr : Tryz.prog.cellsOf 9 = 1 := by kernel_rfl
theorem cErr : Tryz.prog.cellsOf 153 = 1 := by kernel_rfl
theorem star : "*" ++ "errors.errorString" = "*errors.errorString" := by decide
theorem rowErr (u : TypeId) (h : Tryz.prog.typeName? 3 u = some "*errors.errorString") : u = 151 :=
  typeName_ptr_named (nm := "errors.errorString") (by rw [star]; kernel_rfl) (by kernel_rfl) (by decide) u (by rw [star]; exact h)

theorem G_of_laid {W : World} (hS : W.ShapedOpen Tryz.prog) (h : laidMetH Tryz.prog Rows.scriptShowsRow.laid W) : G W := by
  have h : laidMet Tryz.prog Rows.scriptShowsRow.laid W := h
  have h3 := h.tail.tail
  obtain ⟨a1, s1, hv1, _⟩ := laid_sentinel h3.tail.tail gRng gRngT Tryz.underlying70 rowErr Tryz.underlying151 Tryz.underlying153 rfl rfl Tryz.underlying9 cErr cStr
  obtain ⟨a2, s2, hv2, _⟩ := laid_sentinel h3.tail.tail.tail gSyn gSynT Tryz.underlying70 rowErr Tryz.underlying151 Tryz.underlying153 rfl rfl Tryz.underlying9 cErr cStr
  obtain ⟨m0, hm0⟩ := cell_of_shapedOpen_int (P := Tryz.prog) (g := 0) (t := 3) (zero := #[.int .i64 0]) hS (of_decide_eq_true (by kernel_rfl)) (by kernel_rfl) rfl (by kernel_rfl) (by kernel_rfl) Tryz.underlying3
  exact ⟨Lib.tabIs_of_head gTab gTabT Tryz.underlying130 Tryz.underlying44 cU cTab h3, ⟨_, _, by simpa using World.var?_cell gSyn hv2 0⟩, ⟨_, _, by simpa using World.var?_cell gRng hv1 0⟩, ⟨m0, hm0⟩⟩

/-! ### A world for the witnesses -/
def intsD : DataW Unit → Array Value
  | .agg l => (l.flatMap fun | .lit (.int k z) => [Value.int k z] | .agg m => (m.map fun | .lit (.int k z) => Value.int k z | _ => .nilIface) | _ => [.nilIface]).toArray
  | _ => #[]
def textD : DataW Unit → ByteArray
  | .iface _ (.ptr (.agg [.lit (.string s)])) => ⟨s.toArray⟩
  | _ => ⟨#[]⟩
noncomputable def low : Nat := (World.holding Tryz.prog default ⟨#[], #[], []⟩).heap.size
noncomputable def laidWorld (os : Os) : World :=
  let w0 := World.holding Tryz.prog os ⟨#[.cells #[.string (textD Rows.laid_strconv_ErrRange)] 153, .cells #[.string (textD Rows.laid_strconv_ErrSyntax)] 153], #[], []⟩
  let put (h : Array Obj) (g : Nat) (cs : Array Value) : Array Obj := h.modify g fun
    | .cells _ t frozen => .cells cs t frozen
    | o => o
  let h1 := put w0.heap 6 (intsD Rows.laid_math_bits_deBruijn32tab)
  let h2 := put h1 7 (intsD Rows.laid_math_bits_deBruijn64tab)
  let h3 := put h2 1 (intsD Rows.laid_internal_strconv_uint64pow10)
  let h4 := put h3 5 #[.iface 151 (.pointer (some ⟨low, 0, none⟩))]
  let h5 := put h4 4 #[.iface 151 (.pointer (some ⟨low + 1, 0, none⟩))]
  let h6 := put h5 3 (intsD Rows.laid_unicode_utf8_acceptRanges)
  let h7 := put h6 2 (intsD Rows.laid_unicode_utf8_first)
  { w0 with heap := h7 }
theorem laid_met (os : Os) (args : Array Value) : laidMet Tryz.prog Rows.scriptShowsRow.laid ((laidWorld os).forCall (fun _ _ => 0) ⟨#[], args, []⟩).memory :=
  laidMet_of_run' 8 (by kernel_rfl) (by kernel_rfl)
end Go.Proofs.YtchgfabgighbfaaGreatDoor.LaidH
