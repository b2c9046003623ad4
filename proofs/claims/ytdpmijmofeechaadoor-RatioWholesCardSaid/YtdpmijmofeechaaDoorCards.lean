/-
  DERIVED. GIVEN WITH THE SEED: THE CARDS: each row of YtdpmijmofeechaaDoorRows.lean that lists a variable, with what it lists TIED to the program's text (the seventh form; the later family's looks); each row that meets fmt, with fmt's text TOLD by the authors' own Lean function (tested against real Go, not proved from fmt's source: count such statements apart). THE CARD IS WHAT COUNTS. Prove the row's statement (the work); the ties are given (YtdpmijmofeechaaDoorTie.lean); close each card by the builder's one call (the guide's Derived/Test/ToyasCard.lean, 'card_holds'). Laid BY PROGRAM, IN A SANDBOX (cutbox-door.mjs). By AI agents, Wed Nov 11 2026. No macro, syntax, notation, axiom, sorry.
-/
import Derived.Test.YtdpmijmofeechaaDoorRows
import GoSem.ClaimSeven
namespace Go.Proofs.YtdpmijmofeechaaDoor
namespace Rows

/-- THE TIED CARD OF 'copselaw03.RatioMakes'. -/
def ratioMakesCard : Claim7 := { stood := { row := ratioMakesRow, standIns := [], harness := (true, "fec723dc939a79050978ac94218ee417cebcea6ea6472e327a57fbe1aac89d6c"), looks := true }, kinds := [], alts := [], laidByText := true, laidKinds := [.data, .data, .data, .sentinel, .sentinel], laidTests := true, laidLooks := .later }
def RatioMakesCardSaid : Prop := Claim7.holds Tryd.pinned (.plain (OpenSpec.ofChange ratioMakesSpec)) ratioMakesCard

/-- THE TIED CARD OF 'copselaw03.RatioOrders'. -/
def ratioOrdersCard : Claim7 := { stood := { row := ratioOrdersRow, standIns := [], harness := (true, "fec723dc939a79050978ac94218ee417cebcea6ea6472e327a57fbe1aac89d6c"), looks := true }, kinds := [], alts := [], laidByText := true, laidKinds := [.data, .data, .data, .sentinel, .sentinel], laidTests := true, laidLooks := .later }
def RatioOrdersCardSaid : Prop := Claim7.holds Tryd.pinned (.plain (OpenSpec.ofChange ratioOrdersSpec)) ratioOrdersCard

/-- THE TIED CARD OF 'copselaw03.RatioTexts'. -/
def ratioTextsCard : Claim7 := { stood := { row := ratioTextsRow, standIns := [], harness := (true, "fec723dc939a79050978ac94218ee417cebcea6ea6472e327a57fbe1aac89d6c"), looks := true }, kinds := [], alts := [], laidByText := true, laidKinds := [.data, .data, .data, .sentinel, .sentinel], laidTests := true, laidLooks := .later }
def RatioTextsCardSaid : Prop := Claim7.holds Tryd.pinned (.plain (OpenSpec.ofChange ratioTextsSpec)) ratioTextsCard

/-- THE TIED CARD OF 'copselaw13.ScoreMakes'. -/
def scoreMakesCard : Claim7 := { stood := { row := scoreMakesRow, standIns := [], harness := (true, "fec723dc939a79050978ac94218ee417cebcea6ea6472e327a57fbe1aac89d6c"), looks := true }, kinds := [], alts := [], laidByText := true, laidKinds := [.data, .data, .data, .sentinel, .sentinel], laidTests := true, laidLooks := .later }
def ScoreMakesCardSaid : Prop := Claim7.holds Tryd.pinned (.plain (OpenSpec.ofChange scoreMakesSpec)) scoreMakesCard

/-- THE TIED CARD OF 'copselaw13.ScoreOrders'. -/
def scoreOrdersCard : Claim7 := { stood := { row := scoreOrdersRow, standIns := [], harness := (true, "fec723dc939a79050978ac94218ee417cebcea6ea6472e327a57fbe1aac89d6c"), looks := true }, kinds := [], alts := [], laidByText := true, laidKinds := [.data, .data, .data, .sentinel, .sentinel], laidTests := true, laidLooks := .later }
def ScoreOrdersCardSaid : Prop := Claim7.holds Tryd.pinned (.plain (OpenSpec.ofChange scoreOrdersSpec)) scoreOrdersCard

/-- THE TIED CARD OF 'copselaw13.ScoreLevels'. -/
def scoreLevelsCard : Claim7 := { stood := { row := scoreLevelsRow, standIns := [], harness := (true, "fec723dc939a79050978ac94218ee417cebcea6ea6472e327a57fbe1aac89d6c"), looks := true }, kinds := [], alts := [], laidByText := true, laidKinds := [.data, .data, .data, .sentinel, .sentinel], laidTests := true, laidLooks := .later }
def ScoreLevelsCardSaid : Prop := Claim7.holds Tryd.pinned (.plain (OpenSpec.ofChange scoreLevelsSpec)) scoreLevelsCard

/-- THE TIED CARD OF 'copselaw13.ScoreSorts'. -/
def scoreSortsCard : Claim7 := { stood := { row := scoreSortsRow, standIns := [], harness := (true, "fec723dc939a79050978ac94218ee417cebcea6ea6472e327a57fbe1aac89d6c"), looks := true }, kinds := [], alts := [], laidByText := true, laidKinds := [.data, .data, .data, .sentinel, .sentinel], laidTests := true, laidLooks := .later }
def ScoreSortsCardSaid : Prop := Claim7.holds Tryd.pinned (.plain (OpenSpec.ofChange scoreSortsSpec)) scoreSortsCard

/-- THE TIED CARD OF 'copselaw13.ScoreTexts'. -/
def scoreTextsCard : Claim7 := { stood := { row := scoreTextsRow, standIns := [], harness := (true, "fec723dc939a79050978ac94218ee417cebcea6ea6472e327a57fbe1aac89d6c"), looks := true }, kinds := [], alts := [], laidByText := true, laidKinds := [.data, .data, .data, .sentinel, .sentinel], laidTests := true, laidLooks := .later }
def ScoreTextsCardSaid : Prop := Claim7.holds Tryd.pinned (.plain (OpenSpec.ofChange scoreTextsSpec)) scoreTextsCard

/-- THE TIED CARD OF 'copselaw03.RatioDoes'. -/
def ratioDoesCard : Claim7 := { stood := { row := ratioDoesRow, standIns := [], harness := (true, "fec723dc939a79050978ac94218ee417cebcea6ea6472e327a57fbe1aac89d6c"), looks := true }, kinds := [], alts := [], laidByText := true, laidKinds := [.data, .data, .data, .sentinel, .sentinel], laidTests := true, laidLooks := .later }
def RatioDoesCardSaid : Prop := Claim7.holds Tryd.pinned (.plain (OpenSpec.ofChange ratioDoesSpec)) ratioDoesCard

/-- THE TIED CARD OF 'copselaw03.RatioBack'. -/
def ratioBackCard : Claim7 := { stood := { row := ratioBackRow, standIns := [], harness := (true, "fec723dc939a79050978ac94218ee417cebcea6ea6472e327a57fbe1aac89d6c"), looks := true }, kinds := [], alts := [], laidByText := true, laidKinds := [.data, .data, .data, .sentinel, .sentinel], laidTests := true, laidLooks := .later }
def RatioBackCardSaid : Prop := Claim7.holds Tryd.pinned (.plain (OpenSpec.ofChange ratioBackSpec)) ratioBackCard

/-- THE TIED CARD OF 'copselaw03.RatioWholes'. -/
def ratioWholesCard : Claim7 := { stood := { row := ratioWholesRow, standIns := [], harness := (true, "fec723dc939a79050978ac94218ee417cebcea6ea6472e327a57fbe1aac89d6c"), looks := true }, kinds := [], alts := [], laidByText := true, laidKinds := [.data, .data, .data, .sentinel, .sentinel], laidTests := true, laidLooks := .later }
def RatioWholesCardSaid : Prop := Claim7.holds Tryd.pinned (.plain (OpenSpec.ofChange ratioWholesSpec)) ratioWholesCard

/-- THE SECOND FORM's CARD OF 'copselaw03.RatioMakes'. -/
def ratioMakesUptoCard : Claim7 := { stood := { row := ratioMakesUptoRow, standIns := [], harness := (true, "fec723dc939a79050978ac94218ee417cebcea6ea6472e327a57fbe1aac89d6c"), looks := true }, kinds := [], alts := [], laidByText := true, laidKinds := [.data, .data, .data, .sentinel, .sentinel], laidTests := true, laidLooks := .later }
def RatioMakesUptoCardSaid : Prop := Claim7.holds Tryd.pinned (.plain (OpenSpec.upto ratioMakesSpec)) ratioMakesUptoCard

/-- THE SECOND FORM's CARD OF 'copselaw03.RatioOrders'. -/
def ratioOrdersUptoCard : Claim7 := { stood := { row := ratioOrdersUptoRow, standIns := [], harness := (true, "fec723dc939a79050978ac94218ee417cebcea6ea6472e327a57fbe1aac89d6c"), looks := true }, kinds := [], alts := [], laidByText := true, laidKinds := [.data, .data, .data, .sentinel, .sentinel], laidTests := true, laidLooks := .later }
def RatioOrdersUptoCardSaid : Prop := Claim7.holds Tryd.pinned (.plain (OpenSpec.upto ratioOrdersSpec)) ratioOrdersUptoCard

/-- THE SECOND FORM's CARD OF 'copselaw03.RatioTexts'. -/
def ratioTextsUptoCard : Claim7 := { stood := { row := ratioTextsUptoRow, standIns := [], harness := (true, "fec723dc939a79050978ac94218ee417cebcea6ea6472e327a57fbe1aac89d6c"), looks := true }, kinds := [], alts := [], laidByText := true, laidKinds := [.data, .data, .data, .sentinel, .sentinel], laidTests := true, laidLooks := .later }
def RatioTextsUptoCardSaid : Prop := Claim7.holds Tryd.pinned (.plain (OpenSpec.upto ratioTextsSpec)) ratioTextsUptoCard

/-- THE SECOND FORM's CARD OF 'copselaw13.ScoreMakes'. -/
def scoreMakesUptoCard : Claim7 := { stood := { row := scoreMakesUptoRow, standIns := [], harness := (true, "fec723dc939a79050978ac94218ee417cebcea6ea6472e327a57fbe1aac89d6c"), looks := true }, kinds := [], alts := [], laidByText := true, laidKinds := [.data, .data, .data, .sentinel, .sentinel], laidTests := true, laidLooks := .later }
def ScoreMakesUptoCardSaid : Prop := Claim7.holds Tryd.pinned (.plain (OpenSpec.upto scoreMakesSpec)) scoreMakesUptoCard

/-- THE SECOND FORM's CARD OF 'copselaw13.ScoreOrders'. -/
def scoreOrdersUptoCard : Claim7 := { stood := { row := scoreOrdersUptoRow, standIns := [], harness := (true, "fec723dc939a79050978ac94218ee417cebcea6ea6472e327a57fbe1aac89d6c"), looks := true }, kinds := [], alts := [], laidByText := true, laidKinds := [.data, .data, .data, .sentinel, .sentinel], laidTests := true, laidLooks := .later }
def ScoreOrdersUptoCardSaid : Prop := Claim7.holds Tryd.pinned (.plain (OpenSpec.upto scoreOrdersSpec)) scoreOrdersUptoCard

/-- THE SECOND FORM's CARD OF 'copselaw13.ScoreLevels'. -/
def scoreLevelsUptoCard : Claim7 := { stood := { row := scoreLevelsUptoRow, standIns := [], harness := (true, "fec723dc939a79050978ac94218ee417cebcea6ea6472e327a57fbe1aac89d6c"), looks := true }, kinds := [], alts := [], laidByText := true, laidKinds := [.data, .data, .data, .sentinel, .sentinel], laidTests := true, laidLooks := .later }
def ScoreLevelsUptoCardSaid : Prop := Claim7.holds Tryd.pinned (.plain (OpenSpec.upto scoreLevelsSpec)) scoreLevelsUptoCard

/-- THE SECOND FORM's CARD OF 'copselaw13.ScoreSorts'. -/
def scoreSortsUptoCard : Claim7 := { stood := { row := scoreSortsUptoRow, standIns := [], harness := (true, "fec723dc939a79050978ac94218ee417cebcea6ea6472e327a57fbe1aac89d6c"), looks := true }, kinds := [], alts := [], laidByText := true, laidKinds := [.data, .data, .data, .sentinel, .sentinel], laidTests := true, laidLooks := .later }
def ScoreSortsUptoCardSaid : Prop := Claim7.holds Tryd.pinned (.plain (OpenSpec.upto scoreSortsSpec)) scoreSortsUptoCard

/-- THE SECOND FORM's CARD OF 'copselaw13.ScoreTexts'. -/
def scoreTextsUptoCard : Claim7 := { stood := { row := scoreTextsUptoRow, standIns := [], harness := (true, "fec723dc939a79050978ac94218ee417cebcea6ea6472e327a57fbe1aac89d6c"), looks := true }, kinds := [], alts := [], laidByText := true, laidKinds := [.data, .data, .data, .sentinel, .sentinel], laidTests := true, laidLooks := .later }
def ScoreTextsUptoCardSaid : Prop := Claim7.holds Tryd.pinned (.plain (OpenSpec.upto scoreTextsSpec)) scoreTextsUptoCard

/-- THE SECOND FORM's CARD OF 'copselaw03.RatioDoes'. -/
def ratioDoesUptoCard : Claim7 := { stood := { row := ratioDoesUptoRow, standIns := [], harness := (true, "fec723dc939a79050978ac94218ee417cebcea6ea6472e327a57fbe1aac89d6c"), looks := true }, kinds := [], alts := [], laidByText := true, laidKinds := [.data, .data, .data, .sentinel, .sentinel], laidTests := true, laidLooks := .later }
def RatioDoesUptoCardSaid : Prop := Claim7.holds Tryd.pinned (.plain (OpenSpec.upto ratioDoesSpec)) ratioDoesUptoCard

/-- THE SECOND FORM's CARD OF 'copselaw03.RatioBack'. -/
def ratioBackUptoCard : Claim7 := { stood := { row := ratioBackUptoRow, standIns := [], harness := (true, "fec723dc939a79050978ac94218ee417cebcea6ea6472e327a57fbe1aac89d6c"), looks := true }, kinds := [], alts := [], laidByText := true, laidKinds := [.data, .data, .data, .sentinel, .sentinel], laidTests := true, laidLooks := .later }
def RatioBackUptoCardSaid : Prop := Claim7.holds Tryd.pinned (.plain (OpenSpec.upto ratioBackSpec)) ratioBackUptoCard

/-- THE SECOND FORM's CARD OF 'copselaw03.RatioWholes'. -/
def ratioWholesUptoCard : Claim7 := { stood := { row := ratioWholesUptoRow, standIns := [], harness := (true, "fec723dc939a79050978ac94218ee417cebcea6ea6472e327a57fbe1aac89d6c"), looks := true }, kinds := [], alts := [], laidByText := true, laidKinds := [.data, .data, .data, .sentinel, .sentinel], laidTests := true, laidLooks := .later }
def RatioWholesUptoCardSaid : Prop := Claim7.holds Tryd.pinned (.plain (OpenSpec.upto ratioWholesSpec)) ratioWholesUptoCard
end Rows
end Go.Proofs.YtdpmijmofeechaaDoor
