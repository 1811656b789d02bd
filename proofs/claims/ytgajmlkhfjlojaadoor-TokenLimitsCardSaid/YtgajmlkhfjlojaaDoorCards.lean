/-
  DERIVED. GIVEN WITH THE SEED: THE CARDS: each row of YtgajmlkhfjlojaaDoorRows.lean that lists a variable, with what it lists TIED to the program's text (the seventh form; the later family's looks); each row that meets fmt, with fmt's text TOLD by the authors' own Lean function (tested against real Go, not proved from fmt's source: count such statements apart). THE CARD IS WHAT COUNTS. Prove the row's statement (the work); the ties are given (YtgajmlkhfjlojaaDoorTie.lean); close each card by the builder's one call (the guide's Derived/Test/ToyasCard.lean, 'card_holds'). Laid BY PROGRAM, IN A SANDBOX (cutbox-door.mjs). By AI agents, Wed Nov 11 2026. No macro, syntax, notation, axiom, sorry.
-/
import Derived.Test.YtgajmlkhfjlojaaDoorRows
import GoSem.ClaimSeven
namespace Go.Proofs.YtgajmlkhfjlojaaDoor
namespace Rows

/-- THE TIED CARD OF 'sequiturlaw03.TokenOf'. -/
def tokenOfCard : Claim7 := { stood := { row := tokenOfRow, standIns := [], harness := (true, "c4fcb6a731f974a77c276fa2c4a1fbc27b913bb3d956292e4cc9d5e40c91ed7e"), looks := false }, kinds := [], alts := [], laidByText := true, laidKinds := [.listed, .data], laidTests := true, laidLooks := .later }
def TokenOfCardSaid : Prop := Claim7.holds Tryd.pinned (.plain (OpenSpec.ofChange tokenOfSpec)) tokenOfCard

/-- THE TIED CARD OF 'sequiturlaw03.TokenTexts'. -/
def tokenTextsCard : Claim7 := { stood := { row := tokenTextsRow, standIns := [], harness := (true, "c4fcb6a731f974a77c276fa2c4a1fbc27b913bb3d956292e4cc9d5e40c91ed7e"), looks := false }, kinds := [], alts := [], laidByText := true, laidKinds := [.listed, .data], laidTests := true, laidLooks := .later }
def TokenTextsCardSaid : Prop := Claim7.holds Tryd.pinned (.plain (OpenSpec.ofChange tokenTextsSpec)) tokenTextsCard

/-- THE TIED CARD OF 'sequiturlaw03.TokenAgain'. -/
def tokenAgainCard : Claim7 := { stood := { row := tokenAgainRow, standIns := [], harness := (true, "c4fcb6a731f974a77c276fa2c4a1fbc27b913bb3d956292e4cc9d5e40c91ed7e"), looks := false }, kinds := [], alts := [], laidByText := true, laidKinds := [.listed, .data], laidTests := true, laidLooks := .later }
def TokenAgainCardSaid : Prop := Claim7.holds Tryd.pinned (.plain (OpenSpec.ofChange tokenAgainSpec)) tokenAgainCard

/-- THE TIED CARD OF 'sequiturlaw03.TokenBetween'. -/
def tokenBetweenCard : Claim7 := { stood := { row := tokenBetweenRow, standIns := [], harness := (true, "c4fcb6a731f974a77c276fa2c4a1fbc27b913bb3d956292e4cc9d5e40c91ed7e"), looks := false }, kinds := [], alts := [], laidByText := true, laidKinds := [.listed, .data], laidTests := true, laidLooks := .later }
def TokenBetweenCardSaid : Prop := Claim7.holds Tryd.pinned (.plain (OpenSpec.ofChange tokenBetweenSpec)) tokenBetweenCard

/-- THE TIED CARD OF 'sequiturlaw03.TokenLimits'. -/
def tokenLimitsCard : Claim7 := { stood := { row := tokenLimitsRow, standIns := [], harness := (true, "c4fcb6a731f974a77c276fa2c4a1fbc27b913bb3d956292e4cc9d5e40c91ed7e"), looks := false }, kinds := [], alts := [], laidByText := true, laidKinds := [.listed, .data], laidTests := true, laidLooks := .later }
def TokenLimitsCardSaid : Prop := Claim7.holds Tryd.pinned (.plain (OpenSpec.ofChange tokenLimitsSpec)) tokenLimitsCard

/-- THE TIED CARD OF 'sequiturlaw03.TokenWords'. -/
def tokenWordsCard : Claim7 := { stood := { row := tokenWordsRow, standIns := [], harness := (true, "c4fcb6a731f974a77c276fa2c4a1fbc27b913bb3d956292e4cc9d5e40c91ed7e"), looks := false }, kinds := [], alts := [], laidByText := true, laidKinds := [.listed, .data], laidTests := true, laidLooks := .later }
def TokenWordsCardSaid : Prop := Claim7.holds Tryd.pinned (.plain (OpenSpec.ofChange tokenWordsSpec)) tokenWordsCard

/-- THE SECOND FORM's CARD OF 'sequiturlaw03.TokenOf'. -/
def tokenOfUptoCard : Claim7 := { stood := { row := tokenOfUptoRow, standIns := [], harness := (true, "c4fcb6a731f974a77c276fa2c4a1fbc27b913bb3d956292e4cc9d5e40c91ed7e"), looks := false }, kinds := [], alts := [], laidByText := true, laidKinds := [.listed, .data], laidTests := true, laidLooks := .later }
def TokenOfUptoCardSaid : Prop := Claim7.holds Tryd.pinned (.plain (OpenSpec.upto tokenOfSpec)) tokenOfUptoCard

/-- THE SECOND FORM's CARD OF 'sequiturlaw03.TokenTexts'. -/
def tokenTextsUptoCard : Claim7 := { stood := { row := tokenTextsUptoRow, standIns := [], harness := (true, "c4fcb6a731f974a77c276fa2c4a1fbc27b913bb3d956292e4cc9d5e40c91ed7e"), looks := false }, kinds := [], alts := [], laidByText := true, laidKinds := [.listed, .data], laidTests := true, laidLooks := .later }
def TokenTextsUptoCardSaid : Prop := Claim7.holds Tryd.pinned (.plain (OpenSpec.upto tokenTextsSpec)) tokenTextsUptoCard

/-- THE SECOND FORM's CARD OF 'sequiturlaw03.TokenAgain'. -/
def tokenAgainUptoCard : Claim7 := { stood := { row := tokenAgainUptoRow, standIns := [], harness := (true, "c4fcb6a731f974a77c276fa2c4a1fbc27b913bb3d956292e4cc9d5e40c91ed7e"), looks := false }, kinds := [], alts := [], laidByText := true, laidKinds := [.listed, .data], laidTests := true, laidLooks := .later }
def TokenAgainUptoCardSaid : Prop := Claim7.holds Tryd.pinned (.plain (OpenSpec.upto tokenAgainSpec)) tokenAgainUptoCard

/-- THE SECOND FORM's CARD OF 'sequiturlaw03.TokenBetween'. -/
def tokenBetweenUptoCard : Claim7 := { stood := { row := tokenBetweenUptoRow, standIns := [], harness := (true, "c4fcb6a731f974a77c276fa2c4a1fbc27b913bb3d956292e4cc9d5e40c91ed7e"), looks := false }, kinds := [], alts := [], laidByText := true, laidKinds := [.listed, .data], laidTests := true, laidLooks := .later }
def TokenBetweenUptoCardSaid : Prop := Claim7.holds Tryd.pinned (.plain (OpenSpec.upto tokenBetweenSpec)) tokenBetweenUptoCard

/-- THE SECOND FORM's CARD OF 'sequiturlaw03.TokenLimits'. -/
def tokenLimitsUptoCard : Claim7 := { stood := { row := tokenLimitsUptoRow, standIns := [], harness := (true, "c4fcb6a731f974a77c276fa2c4a1fbc27b913bb3d956292e4cc9d5e40c91ed7e"), looks := false }, kinds := [], alts := [], laidByText := true, laidKinds := [.listed, .data], laidTests := true, laidLooks := .later }
def TokenLimitsUptoCardSaid : Prop := Claim7.holds Tryd.pinned (.plain (OpenSpec.upto tokenLimitsSpec)) tokenLimitsUptoCard

/-- THE SECOND FORM's CARD OF 'sequiturlaw03.TokenWords'. -/
def tokenWordsUptoCard : Claim7 := { stood := { row := tokenWordsUptoRow, standIns := [], harness := (true, "c4fcb6a731f974a77c276fa2c4a1fbc27b913bb3d956292e4cc9d5e40c91ed7e"), looks := false }, kinds := [], alts := [], laidByText := true, laidKinds := [.listed, .data], laidTests := true, laidLooks := .later }
def TokenWordsUptoCardSaid : Prop := Claim7.holds Tryd.pinned (.plain (OpenSpec.upto tokenWordsSpec)) tokenWordsUptoCard
end Rows
end Go.Proofs.YtgajmlkhfjlojaaDoor
