/-
  DERIVED. GIVEN WITH THE SEED: THE CARDS: each row of YtfbocehdhmpnaaaDoorRows.lean that lists a variable, with what it lists TIED to the program's text (the seventh form; the later family's looks); each row that meets fmt, with fmt's text TOLD by the authors' own Lean function (tested against real Go, not proved from fmt's source: count such statements apart). THE CARD IS WHAT COUNTS. Prove the row's statement (the work); the ties are given (YtfbocehdhmpnaaaDoorTie.lean); close each card by the builder's one call (the guide's Derived/Test/ToyasCard.lean, 'card_holds'). Laid BY PROGRAM, IN A SANDBOX (cutbox-door.mjs). By AI agents, Wed Nov 11 2026. No macro, syntax, notation, axiom, sorry.
-/
import Derived.Test.YtfbocehdhmpnaaaDoorRows
import GoSem.ClaimSeven
namespace Go.Proofs.YtfbocehdhmpnaaaDoor
namespace Rows

/-- THE TIED CARD OF 'sequiturlaw02.DigitTexts'. -/
def digitTextsCard : Claim7 := { stood := { row := digitTextsRow, standIns := [], harness := (true, "77cc54c789d1ad0ea79a263ff338215c3a75321a8ed02037d20d8b96355b75f9"), looks := true }, kinds := [], alts := [], laidByText := true, laidKinds := [.data, .data, .data, .sentinel, .sentinel], laidTests := true, laidLooks := .later }
def DigitTextsCardSaid : Prop := Claim7.holds Tryd.pinned (.plain (OpenSpec.ofChange digitTextsSpec)) digitTextsCard

/-- THE TIED CARD OF 'sequiturlaw02.DigitReads'. -/
def digitReadsCard : Claim7 := { stood := { row := digitReadsRow, standIns := [], harness := (true, "77cc54c789d1ad0ea79a263ff338215c3a75321a8ed02037d20d8b96355b75f9"), looks := true }, kinds := [], alts := [], laidByText := true, laidKinds := [.data, .data, .data, .sentinel, .sentinel], laidTests := true, laidLooks := .later }
def DigitReadsCardSaid : Prop := Claim7.holds Tryd.pinned (.plain (OpenSpec.ofChange digitReadsSpec)) digitReadsCard

/-- THE TIED CARD OF 'sequiturlaw02.DigitBack'. -/
def digitBackCard : Claim7 := { stood := { row := digitBackRow, standIns := [], harness := (true, "77cc54c789d1ad0ea79a263ff338215c3a75321a8ed02037d20d8b96355b75f9"), looks := true }, kinds := [], alts := [], laidByText := true, laidKinds := [.data, .data, .data, .sentinel, .sentinel], laidTests := true, laidLooks := .later }
def DigitBackCardSaid : Prop := Claim7.holds Tryd.pinned (.plain (OpenSpec.ofChange digitBackSpec)) digitBackCard

/-- THE TIED CARD OF 'sequiturlaw02.DigitParts'. -/
def digitPartsCard : Claim7 := { stood := { row := digitPartsRow, standIns := [], harness := (true, "77cc54c789d1ad0ea79a263ff338215c3a75321a8ed02037d20d8b96355b75f9"), looks := true }, kinds := [], alts := [], laidByText := true, laidKinds := [.data, .data, .data, .sentinel, .sentinel], laidTests := true, laidLooks := .later }
def DigitPartsCardSaid : Prop := Claim7.holds Tryd.pinned (.plain (OpenSpec.ofChange digitPartsSpec)) digitPartsCard

/-- THE TIED CARD OF 'sequiturlaw02.DigitApart'. -/
def digitApartCard : Claim7 := { stood := { row := digitApartRow, standIns := [], harness := (true, "77cc54c789d1ad0ea79a263ff338215c3a75321a8ed02037d20d8b96355b75f9"), looks := true }, kinds := [], alts := [], laidByText := true, laidKinds := [.data, .data, .data, .sentinel, .sentinel], laidTests := true, laidLooks := .later }
def DigitApartCardSaid : Prop := Claim7.holds Tryd.pinned (.plain (OpenSpec.ofChange digitApartSpec)) digitApartCard

/-- THE SECOND FORM's CARD OF 'sequiturlaw02.DigitTexts'. -/
def digitTextsUptoCard : Claim7 := { stood := { row := digitTextsUptoRow, standIns := [], harness := (true, "77cc54c789d1ad0ea79a263ff338215c3a75321a8ed02037d20d8b96355b75f9"), looks := true }, kinds := [], alts := [], laidByText := true, laidKinds := [.data, .data, .data, .sentinel, .sentinel], laidTests := true, laidLooks := .later }
def DigitTextsUptoCardSaid : Prop := Claim7.holds Tryd.pinned (.plain (OpenSpec.upto digitTextsSpec)) digitTextsUptoCard

/-- THE SECOND FORM's CARD OF 'sequiturlaw02.DigitReads'. -/
def digitReadsUptoCard : Claim7 := { stood := { row := digitReadsUptoRow, standIns := [], harness := (true, "77cc54c789d1ad0ea79a263ff338215c3a75321a8ed02037d20d8b96355b75f9"), looks := true }, kinds := [], alts := [], laidByText := true, laidKinds := [.data, .data, .data, .sentinel, .sentinel], laidTests := true, laidLooks := .later }
def DigitReadsUptoCardSaid : Prop := Claim7.holds Tryd.pinned (.plain (OpenSpec.upto digitReadsSpec)) digitReadsUptoCard

/-- THE SECOND FORM's CARD OF 'sequiturlaw02.DigitBack'. -/
def digitBackUptoCard : Claim7 := { stood := { row := digitBackUptoRow, standIns := [], harness := (true, "77cc54c789d1ad0ea79a263ff338215c3a75321a8ed02037d20d8b96355b75f9"), looks := true }, kinds := [], alts := [], laidByText := true, laidKinds := [.data, .data, .data, .sentinel, .sentinel], laidTests := true, laidLooks := .later }
def DigitBackUptoCardSaid : Prop := Claim7.holds Tryd.pinned (.plain (OpenSpec.upto digitBackSpec)) digitBackUptoCard

/-- THE SECOND FORM's CARD OF 'sequiturlaw02.DigitParts'. -/
def digitPartsUptoCard : Claim7 := { stood := { row := digitPartsUptoRow, standIns := [], harness := (true, "77cc54c789d1ad0ea79a263ff338215c3a75321a8ed02037d20d8b96355b75f9"), looks := true }, kinds := [], alts := [], laidByText := true, laidKinds := [.data, .data, .data, .sentinel, .sentinel], laidTests := true, laidLooks := .later }
def DigitPartsUptoCardSaid : Prop := Claim7.holds Tryd.pinned (.plain (OpenSpec.upto digitPartsSpec)) digitPartsUptoCard

/-- THE SECOND FORM's CARD OF 'sequiturlaw02.DigitApart'. -/
def digitApartUptoCard : Claim7 := { stood := { row := digitApartUptoRow, standIns := [], harness := (true, "77cc54c789d1ad0ea79a263ff338215c3a75321a8ed02037d20d8b96355b75f9"), looks := true }, kinds := [], alts := [], laidByText := true, laidKinds := [.data, .data, .data, .sentinel, .sentinel], laidTests := true, laidLooks := .later }
def DigitApartUptoCardSaid : Prop := Claim7.holds Tryd.pinned (.plain (OpenSpec.upto digitApartSpec)) digitApartUptoCard
end Rows
end Go.Proofs.YtfbocehdhmpnaaaDoor
