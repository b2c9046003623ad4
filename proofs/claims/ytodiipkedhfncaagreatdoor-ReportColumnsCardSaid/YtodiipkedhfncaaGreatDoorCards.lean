/-
  DERIVED. GIVEN WITH THE SEED: THE CARDS: each row of YtodiipkedhfncaaGreatDoorRows.lean that lists a variable, with what it lists TIED to the program's text (the seventh form; the later family's looks); each row that meets fmt, with fmt's text TOLD by the authors' own Lean function (tested against real Go, not proved from fmt's source: count such statements apart). THE CARD IS WHAT COUNTS. Prove the row's statement (the work); the ties are given (YtodiipkedhfncaaGreatDoorTie.lean); close each card by the builder's one call (the guide's Derived/Test/ToyasCard.lean, 'card_holds'). Laid BY PROGRAM, IN A SANDBOX (cutbox-door.mjs). By AI agents, Wed Nov 11 2026. No macro, syntax, notation, axiom, sorry.
-/
import Derived.Test.YtodiipkedhfncaaGreatDoorRows
import GoSem.ClaimSeven
namespace Go.Proofs.YtodiipkedhfncaaGreatDoor
namespace Rows

/-- THE TIED CARD OF 'copselaw37.ReportColumns'. -/
def reportColumnsCard : Claim7 := { stood := { row := reportColumnsRow, standIns := [], harness := (true, "7f54aa48589dda67135c86887777d69c1de5570acdc61384beecb51774b42988"), looks := false }, kinds := [], alts := [], laidByText := true, laidKinds := [.data, .data, .data], laidTests := true, laidLooks := .later }
def ReportColumnsCardSaid : Prop := Claim7.holds Tryz.pinned (.plain (OpenSpec.ofChange reportColumnsSpec)) reportColumnsCard

/-- THE TIED CARD OF 'copselaw37.ReportSpreads'. -/
def reportSpreadsCard : Claim7 := { stood := { row := reportSpreadsRow, standIns := [], harness := (true, "7f54aa48589dda67135c86887777d69c1de5570acdc61384beecb51774b42988"), looks := false }, kinds := [], alts := [], laidByText := true, laidKinds := [.data, .data, .data], laidTests := true, laidLooks := .later }
def ReportSpreadsCardSaid : Prop := Claim7.holds Tryz.pinned (.plain (OpenSpec.ofChange reportSpreadsSpec)) reportSpreadsCard

/-- THE TIED CARD OF 'copselaw37.ReportDevs'. -/
def reportDevsCard : Claim7 := { stood := { row := reportDevsRow, standIns := [], harness := (true, "7f54aa48589dda67135c86887777d69c1de5570acdc61384beecb51774b42988"), looks := false }, kinds := [], alts := [], laidByText := true, laidKinds := [.data, .data, .data], laidTests := true, laidLooks := .later }
def ReportDevsCardSaid : Prop := Claim7.holds Tryz.pinned (.plain (OpenSpec.ofChange reportDevsSpec)) reportDevsCard

/-- THE TIED CARD OF 'copselaw37.ReportLevels'. -/
def reportLevelsCard : Claim7 := { stood := { row := reportLevelsRow, standIns := [], harness := (true, "7f54aa48589dda67135c86887777d69c1de5570acdc61384beecb51774b42988"), looks := false }, kinds := [], alts := [], laidByText := true, laidKinds := [.data, .data, .data], laidTests := true, laidLooks := .later }
def ReportLevelsCardSaid : Prop := Claim7.holds Tryz.pinned (.plain (OpenSpec.ofChange reportLevelsSpec)) reportLevelsCard

/-- THE TIED CARD OF 'copselaw37.ReportTells'. -/
def reportTellsCard : Claim7 := { stood := { row := reportTellsRow, standIns := [], harness := (true, "7f54aa48589dda67135c86887777d69c1de5570acdc61384beecb51774b42988"), looks := false }, kinds := [], alts := [], laidByText := true, laidKinds := [.data, .data, .data], laidTests := true, laidLooks := .later }
def ReportTellsCardSaid : Prop := Claim7.holds Tryz.pinned (.plain (OpenSpec.ofChange reportTellsSpec)) reportTellsCard

/-- THE SECOND FORM's CARD OF 'copselaw37.ReportColumns'. -/
def reportColumnsUptoCard : Claim7 := { stood := { row := reportColumnsUptoRow, standIns := [], harness := (true, "7f54aa48589dda67135c86887777d69c1de5570acdc61384beecb51774b42988"), looks := false }, kinds := [], alts := [], laidByText := true, laidKinds := [.data, .data, .data], laidTests := true, laidLooks := .later }
def ReportColumnsUptoCardSaid : Prop := Claim7.holds Tryz.pinned (.plain (OpenSpec.upto reportColumnsSpec)) reportColumnsUptoCard

/-- THE SECOND FORM's CARD OF 'copselaw37.ReportSpreads'. -/
def reportSpreadsUptoCard : Claim7 := { stood := { row := reportSpreadsUptoRow, standIns := [], harness := (true, "7f54aa48589dda67135c86887777d69c1de5570acdc61384beecb51774b42988"), looks := false }, kinds := [], alts := [], laidByText := true, laidKinds := [.data, .data, .data], laidTests := true, laidLooks := .later }
def ReportSpreadsUptoCardSaid : Prop := Claim7.holds Tryz.pinned (.plain (OpenSpec.upto reportSpreadsSpec)) reportSpreadsUptoCard

/-- THE SECOND FORM's CARD OF 'copselaw37.ReportDevs'. -/
def reportDevsUptoCard : Claim7 := { stood := { row := reportDevsUptoRow, standIns := [], harness := (true, "7f54aa48589dda67135c86887777d69c1de5570acdc61384beecb51774b42988"), looks := false }, kinds := [], alts := [], laidByText := true, laidKinds := [.data, .data, .data], laidTests := true, laidLooks := .later }
def ReportDevsUptoCardSaid : Prop := Claim7.holds Tryz.pinned (.plain (OpenSpec.upto reportDevsSpec)) reportDevsUptoCard

/-- THE SECOND FORM's CARD OF 'copselaw37.ReportLevels'. -/
def reportLevelsUptoCard : Claim7 := { stood := { row := reportLevelsUptoRow, standIns := [], harness := (true, "7f54aa48589dda67135c86887777d69c1de5570acdc61384beecb51774b42988"), looks := false }, kinds := [], alts := [], laidByText := true, laidKinds := [.data, .data, .data], laidTests := true, laidLooks := .later }
def ReportLevelsUptoCardSaid : Prop := Claim7.holds Tryz.pinned (.plain (OpenSpec.upto reportLevelsSpec)) reportLevelsUptoCard

/-- THE SECOND FORM's CARD OF 'copselaw37.ReportTells'. -/
def reportTellsUptoCard : Claim7 := { stood := { row := reportTellsUptoRow, standIns := [], harness := (true, "7f54aa48589dda67135c86887777d69c1de5570acdc61384beecb51774b42988"), looks := false }, kinds := [], alts := [], laidByText := true, laidKinds := [.data, .data, .data], laidTests := true, laidLooks := .later }
def ReportTellsUptoCardSaid : Prop := Claim7.holds Tryz.pinned (.plain (OpenSpec.upto reportTellsSpec)) reportTellsUptoCard
end Rows
end Go.Proofs.YtodiipkedhfncaaGreatDoor
