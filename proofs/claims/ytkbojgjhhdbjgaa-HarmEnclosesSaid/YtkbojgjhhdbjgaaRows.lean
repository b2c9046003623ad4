/-
  No cell of these rows narrows 'for every input' (looked for: loops, veiled, ifaces, maps, wideKeys, modest, calm, conditions, laid).
  DERIVED. THE GIVEN ROWS OF THIS SEAT. 4 by the template 'for every input the law returns true; each argument reads behind the call as it read before'; 0 by the template 'total and deterministic' (their statements: YtkbojgjhhdbjgaaTotals.lean).
  GIVEN WITH THE SEED: the statements are not yours to turn. If you find one false, say at which input.
  Laid BY PROGRAM, IN A SANDBOX (cutbox-rows.mjs): the forced cells as the released guide's own fill.sh prints them over the translation 16080204413b5ebb… (all of the seat's roots in one cut). By AI agents, Wed Nov 11 2026. No macro, syntax, notation, axiom, sorry.
-/
import Derived.Test.YtkbojgjhhdbjgaaChecked
import GoSem.Claim
import GoSem.ClaimJoined
import GoSem.ClaimMapViews
import Derived.JoinedTies
import Derived.KernelRfl
namespace Go.Proofs.Ytkbojgjhhdbjgaa
/- THE CELL 'sum', in the pinned program and in every row, IS THE sha256 OF THE DUMP (.gsa) THAT YtkbojgjhhdbjgaaProg.lean LOADS. Nothing in Lean hashes anything: it is a label: what it is worth is what the hold of that sum in a sandbox is worth. -/
noncomputable def Try.pinned : Pinned := { name := "ytkbojgjhhdbjgaa", sum := "16080204413b5ebbc8c2c67a3c3fb378c0223d805530bf69485c6f5d943e640f", checked := Try.checked }
namespace Rows
def none {H : Type} : Left H := { results := [], args := [] }

/-- 'copselaw05.HarmTells': WHATEVER THE INPUT: true; the input reads as it did. -/
def harmTellsSpec : ChangeSpec := { name := "harmTells", fn := fun _ => fun
  | [d] => { results := [.lit (.bool true)], args := [d] }
  | _ => none }
def harmTellsRow : OpenClaim := { program := "ytkbojgjhhdbjgaa", sum := "16080204413b5ebbc8c2c67a3c3fb378c0223d805530bf69485c6f5d943e640f", func := "copse/copselaw05.HarmTells", spec := "harmTells", unfollowed := true, recurses := true, apart := false }
def HarmTellsSaid : Prop := harmTellsRow.holds Try.pinned (OpenSpec.ofChange harmTellsSpec)

/-- ITS FALSE NEIGHBOUR: 'it returns false'. Refute it at one input. -/
def harmTellsWrong : ChangeSpec := { name := "harmTells", fn := fun _ => fun
  | [d] => { results := [.lit (.bool false)], args := [d] }
  | _ => none }
def HarmTellsWrongFalsely : Prop := harmTellsRow.holds Try.pinned (OpenSpec.ofChange harmTellsWrong)

/-- 'copselaw05.HarmEncloses': WHATEVER THE INPUT: true; the input reads as it did. -/
def harmEnclosesSpec : ChangeSpec := { name := "harmEncloses", fn := fun _ => fun
  | [d] => { results := [.lit (.bool true)], args := [d] }
  | _ => none }
def harmEnclosesRow : OpenClaim := { program := "ytkbojgjhhdbjgaa", sum := "16080204413b5ebbc8c2c67a3c3fb378c0223d805530bf69485c6f5d943e640f", func := "copse/copselaw05.HarmEncloses", spec := "harmEncloses", unfollowed := true, recurses := true, apart := false }
def HarmEnclosesSaid : Prop := harmEnclosesRow.holds Try.pinned (OpenSpec.ofChange harmEnclosesSpec)

/-- ITS FALSE NEIGHBOUR: 'it returns false'. Refute it at one input. -/
def harmEnclosesWrong : ChangeSpec := { name := "harmEncloses", fn := fun _ => fun
  | [d] => { results := [.lit (.bool false)], args := [d] }
  | _ => none }
def HarmEnclosesWrongFalsely : Prop := harmEnclosesRow.holds Try.pinned (OpenSpec.ofChange harmEnclosesWrong)

/-- 'copselaw05.HarmMeans': WHATEVER THE INPUT: true; the input reads as it did. -/
def harmMeansSpec : ChangeSpec := { name := "harmMeans", fn := fun _ => fun
  | [d] => { results := [.lit (.bool true)], args := [d] }
  | _ => none }
def harmMeansRow : OpenClaim := { program := "ytkbojgjhhdbjgaa", sum := "16080204413b5ebbc8c2c67a3c3fb378c0223d805530bf69485c6f5d943e640f", func := "copse/copselaw05.HarmMeans", spec := "harmMeans", unfollowed := true, recurses := true, apart := false }
def HarmMeansSaid : Prop := harmMeansRow.holds Try.pinned (OpenSpec.ofChange harmMeansSpec)

/-- ITS FALSE NEIGHBOUR: 'it returns false'. Refute it at one input. -/
def harmMeansWrong : ChangeSpec := { name := "harmMeans", fn := fun _ => fun
  | [d] => { results := [.lit (.bool false)], args := [d] }
  | _ => none }
def HarmMeansWrongFalsely : Prop := harmMeansRow.holds Try.pinned (OpenSpec.ofChange harmMeansWrong)

/-- 'copselaw05.HarmFracs': WHATEVER THE INPUT: true; the input reads as it did. -/
def harmFracsSpec : ChangeSpec := { name := "harmFracs", fn := fun _ => fun
  | [d] => { results := [.lit (.bool true)], args := [d] }
  | _ => none }
def harmFracsRow : OpenClaim := { program := "ytkbojgjhhdbjgaa", sum := "16080204413b5ebbc8c2c67a3c3fb378c0223d805530bf69485c6f5d943e640f", func := "copse/copselaw05.HarmFracs", spec := "harmFracs", unfollowed := true, recurses := true, apart := false }
def HarmFracsSaid : Prop := harmFracsRow.holds Try.pinned (OpenSpec.ofChange harmFracsSpec)

/-- ITS FALSE NEIGHBOUR: 'it returns false'. Refute it at one input. -/
def harmFracsWrong : ChangeSpec := { name := "harmFracs", fn := fun _ => fun
  | [d] => { results := [.lit (.bool false)], args := [d] }
  | _ => none }
def HarmFracsWrongFalsely : Prop := harmFracsRow.holds Try.pinned (OpenSpec.ofChange harmFracsWrong)

/- THE SECOND FORM. 'bulk': how many values and letters a reading holds, each counted each time it is reached (what is shared counts as often as it is met; a slice's spare places count too). A statement '..UptoSaid' is the law's where the arguments, and the package variables that the reading takes, are together of bulk at most 1048576: NARROWER than '..Said'. Prove '..Said' where nothing that the law and all that it calls make is longer than what came in: it says more and counts as full. Else prove '..UptoSaid'. A law counts once. -/
mutual
def uptoBulk {H : Type} : DataW H → Nat
  | .lit (.string bytes) => bytes.length + 1
  | .lit _ => 1
  | .nil => 1
  | .ptr d => uptoBulk d + 1
  | .slice elems spare => uptoBulkAll elems + uptoBulkAll spare + 1
  | .agg parts => uptoBulkAll parts + 1
  | .iface _ d => uptoBulk d + 1
  | .map entries => uptoBulkEntries entries + 1
  | .held _ => 1
def uptoBulkAll {H : Type} : List (DataW H) → Nat
  | [] => 0
  | d :: r => uptoBulk d + uptoBulkAll r
def uptoBulkEntries {H : Type} : List (Lit × DataW H) → Nat
  | [] => 0
  | x :: r => uptoBulkEntry x + uptoBulkEntries r
def uptoBulkEntry {H : Type} : Lit × DataW H → Nat
  | (.string bytes, d) => bytes.length + uptoBulk d + 1
  | (_, d) => uptoBulk d + 1
 end
def uptoSmall : (H : Type) → List (DataW H) → Bool := fun _ ds => decide (uptoBulkAll ds ≤ 1048576)
def OpenSpec.upto (s : _root_.Go.ChangeSpec) : _root_.Go.OpenSpec := { _root_.Go.OpenSpec.ofChange s with cond := some uptoSmall }

/-- 'copselaw05.HarmTells', WHERE WHAT IT READS IS OF BULK AT MOST 1048576: true; the input reads as it did. -/
def harmTellsUptoRow : OpenClaim := { program := "ytkbojgjhhdbjgaa", sum := "16080204413b5ebbc8c2c67a3c3fb378c0223d805530bf69485c6f5d943e640f", func := "copse/copselaw05.HarmTells", spec := "harmTells", unfollowed := true, recurses := true, apart := false, narrowed := true }
def HarmTellsUptoSaid : Prop := harmTellsUptoRow.holds Try.pinned (OpenSpec.upto harmTellsSpec)

/-- 'copselaw05.HarmEncloses', WHERE WHAT IT READS IS OF BULK AT MOST 1048576: true; the input reads as it did. -/
def harmEnclosesUptoRow : OpenClaim := { program := "ytkbojgjhhdbjgaa", sum := "16080204413b5ebbc8c2c67a3c3fb378c0223d805530bf69485c6f5d943e640f", func := "copse/copselaw05.HarmEncloses", spec := "harmEncloses", unfollowed := true, recurses := true, apart := false, narrowed := true }
def HarmEnclosesUptoSaid : Prop := harmEnclosesUptoRow.holds Try.pinned (OpenSpec.upto harmEnclosesSpec)

/-- 'copselaw05.HarmMeans', WHERE WHAT IT READS IS OF BULK AT MOST 1048576: true; the input reads as it did. -/
def harmMeansUptoRow : OpenClaim := { program := "ytkbojgjhhdbjgaa", sum := "16080204413b5ebbc8c2c67a3c3fb378c0223d805530bf69485c6f5d943e640f", func := "copse/copselaw05.HarmMeans", spec := "harmMeans", unfollowed := true, recurses := true, apart := false, narrowed := true }
def HarmMeansUptoSaid : Prop := harmMeansUptoRow.holds Try.pinned (OpenSpec.upto harmMeansSpec)

/-- 'copselaw05.HarmFracs', WHERE WHAT IT READS IS OF BULK AT MOST 1048576: true; the input reads as it did. -/
def harmFracsUptoRow : OpenClaim := { program := "ytkbojgjhhdbjgaa", sum := "16080204413b5ebbc8c2c67a3c3fb378c0223d805530bf69485c6f5d943e640f", func := "copse/copselaw05.HarmFracs", spec := "harmFracs", unfollowed := true, recurses := true, apart := false, narrowed := true }
def HarmFracsUptoSaid : Prop := harmFracsUptoRow.holds Try.pinned (OpenSpec.upto harmFracsSpec)

end Rows
end Go.Proofs.Ytkbojgjhhdbjgaa
