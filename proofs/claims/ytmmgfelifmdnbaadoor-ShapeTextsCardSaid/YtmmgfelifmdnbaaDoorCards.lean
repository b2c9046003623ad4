/-
  DERIVED. GIVEN WITH THE SEED: THE CARDS: each row of YtmmgfelifmdnbaaDoorRows.lean that lists a variable, with what it lists TIED to the program's text (the seventh form; the later family's looks); each row that meets fmt, with fmt's text TOLD by the authors' own Lean function (tested against real Go, not proved from fmt's source: count such statements apart). THE CARD IS WHAT COUNTS. Prove the row's statement (the work); the ties are given (YtmmgfelifmdnbaaDoorTie.lean); close each card by the builder's one call (the guide's Derived/Test/ToyasCard.lean, 'card_holds'). Laid BY PROGRAM, IN A SANDBOX (cutbox-door.mjs). By AI agents, Wed Nov 11 2026. No macro, syntax, notation, axiom, sorry.
-/
import Derived.Test.YtmmgfelifmdnbaaDoorRows
import GoSem.ClaimSeven
namespace Go.Proofs.YtmmgfelifmdnbaaDoor
namespace Rows

/-- THE TIED CARD OF 'copselaw11.ShapeTells'. -/
def shapeTellsCard : Claim7 := { stood := { row := shapeTellsRow, standIns := [], harness := (true, "ab3a0fc72a1dfec5be83ac5d9c78e3e42c1367f210be2fbbe185398929ececc9"), looks := true }, kinds := [], alts := [], laidByText := true, laidKinds := [.data, .data, .data, .sentinel, .sentinel], laidTests := true, laidLooks := .later }
def ShapeTellsCardSaid : Prop := Claim7.holds Tryd.pinned (.plain (OpenSpec.ofChange shapeTellsSpec)) shapeTellsCard

/-- THE TIED CARD OF 'copselaw11.ShapeRoutes'. -/
def shapeRoutesCard : Claim7 := { stood := { row := shapeRoutesRow, standIns := [], harness := (true, "ab3a0fc72a1dfec5be83ac5d9c78e3e42c1367f210be2fbbe185398929ececc9"), looks := true }, kinds := [], alts := [], laidByText := true, laidKinds := [.data, .data, .data, .sentinel, .sentinel], laidTests := true, laidLooks := .later }
def ShapeRoutesCardSaid : Prop := Claim7.holds Tryd.pinned (.plain (OpenSpec.ofChange shapeRoutesSpec)) shapeRoutesCard

/-- THE TIED CARD OF 'copselaw11.ShapePrunes'. -/
def shapePrunesCard : Claim7 := { stood := { row := shapePrunesRow, standIns := [], harness := (true, "ab3a0fc72a1dfec5be83ac5d9c78e3e42c1367f210be2fbbe185398929ececc9"), looks := true }, kinds := [], alts := [], laidByText := true, laidKinds := [.data, .data, .data, .sentinel, .sentinel], laidTests := true, laidLooks := .later }
def ShapePrunesCardSaid : Prop := Claim7.holds Tryd.pinned (.plain (OpenSpec.ofChange shapePrunesSpec)) shapePrunesCard

/-- THE TIED CARD OF 'copselaw11.ShapeTexts'. -/
def shapeTextsCard : Claim7 := { stood := { row := shapeTextsRow, standIns := [], harness := (true, "ab3a0fc72a1dfec5be83ac5d9c78e3e42c1367f210be2fbbe185398929ececc9"), looks := true }, kinds := [], alts := [], laidByText := true, laidKinds := [.data, .data, .data, .sentinel, .sentinel], laidTests := true, laidLooks := .later }
def ShapeTextsCardSaid : Prop := Claim7.holds Tryd.pinned (.plain (OpenSpec.ofChange shapeTextsSpec)) shapeTextsCard

/-- THE SECOND FORM's CARD OF 'copselaw11.ShapeTells'. -/
def shapeTellsUptoCard : Claim7 := { stood := { row := shapeTellsUptoRow, standIns := [], harness := (true, "ab3a0fc72a1dfec5be83ac5d9c78e3e42c1367f210be2fbbe185398929ececc9"), looks := true }, kinds := [], alts := [], laidByText := true, laidKinds := [.data, .data, .data, .sentinel, .sentinel], laidTests := true, laidLooks := .later }
def ShapeTellsUptoCardSaid : Prop := Claim7.holds Tryd.pinned (.plain (OpenSpec.upto shapeTellsSpec)) shapeTellsUptoCard

/-- THE SECOND FORM's CARD OF 'copselaw11.ShapeRoutes'. -/
def shapeRoutesUptoCard : Claim7 := { stood := { row := shapeRoutesUptoRow, standIns := [], harness := (true, "ab3a0fc72a1dfec5be83ac5d9c78e3e42c1367f210be2fbbe185398929ececc9"), looks := true }, kinds := [], alts := [], laidByText := true, laidKinds := [.data, .data, .data, .sentinel, .sentinel], laidTests := true, laidLooks := .later }
def ShapeRoutesUptoCardSaid : Prop := Claim7.holds Tryd.pinned (.plain (OpenSpec.upto shapeRoutesSpec)) shapeRoutesUptoCard

/-- THE SECOND FORM's CARD OF 'copselaw11.ShapePrunes'. -/
def shapePrunesUptoCard : Claim7 := { stood := { row := shapePrunesUptoRow, standIns := [], harness := (true, "ab3a0fc72a1dfec5be83ac5d9c78e3e42c1367f210be2fbbe185398929ececc9"), looks := true }, kinds := [], alts := [], laidByText := true, laidKinds := [.data, .data, .data, .sentinel, .sentinel], laidTests := true, laidLooks := .later }
def ShapePrunesUptoCardSaid : Prop := Claim7.holds Tryd.pinned (.plain (OpenSpec.upto shapePrunesSpec)) shapePrunesUptoCard

/-- THE SECOND FORM's CARD OF 'copselaw11.ShapeTexts'. -/
def shapeTextsUptoCard : Claim7 := { stood := { row := shapeTextsUptoRow, standIns := [], harness := (true, "ab3a0fc72a1dfec5be83ac5d9c78e3e42c1367f210be2fbbe185398929ececc9"), looks := true }, kinds := [], alts := [], laidByText := true, laidKinds := [.data, .data, .data, .sentinel, .sentinel], laidTests := true, laidLooks := .later }
def ShapeTextsUptoCardSaid : Prop := Claim7.holds Tryd.pinned (.plain (OpenSpec.upto shapeTextsSpec)) shapeTextsUptoCard
end Rows
end Go.Proofs.YtmmgfelifmdnbaaDoor
