/-
  DERIVED. GIVEN WITH THE SEED: THE CARDS: each row of YtjmbdejejlcklaaDoorRows.lean that lists a variable, with what it lists TIED to the program's text (the seventh form; the later family's looks); each row that meets fmt, with fmt's text TOLD by the authors' own Lean function (tested against real Go, not proved from fmt's source: count such statements apart). THE CARD IS WHAT COUNTS. Prove the row's statement (the work); the ties are given (YtjmbdejejlcklaaDoorTie.lean); close each card by the builder's one call (the guide's Derived/Test/ToyasCard.lean, 'card_holds'). Laid BY PROGRAM, IN A SANDBOX (cutbox-door.mjs). By AI agents, Wed Nov 11 2026. No macro, syntax, notation, axiom, sorry.
-/
import Derived.Test.YtjmbdejejlcklaaDoorRows
import GoSem.ClaimSeven
namespace Go.Proofs.YtjmbdejejlcklaaDoor
namespace Rows

/-- THE TIED CARD OF 'sequiturlaw13.WellTerms'. -/
def wellTermsCard : Claim7 := { stood := { row := wellTermsRow, standIns := [], harness := (true, "8002697ea33da25bed148ba95d20addd90d9493eee35f3a4d8142b35c20c0f9f"), looks := false }, kinds := [], alts := [], laidByText := true, laidKinds := [.data], laidTests := true, laidLooks := .later }
def WellTermsCardSaid : Prop := Claim7.holds Tryd.pinned (.plain (OpenSpec.ofChange wellTermsSpec)) wellTermsCard

/-- THE TIED CARD OF 'sequiturlaw13.WellPuts'. -/
def wellPutsCard : Claim7 := { stood := { row := wellPutsRow, standIns := [], harness := (true, "8002697ea33da25bed148ba95d20addd90d9493eee35f3a4d8142b35c20c0f9f"), looks := false }, kinds := [], alts := [], laidByText := true, laidKinds := [.data], laidTests := true, laidLooks := .later }
def WellPutsCardSaid : Prop := Claim7.holds Tryd.pinned (.plain (OpenSpec.ofChange wellPutsSpec)) wellPutsCard

/-- THE TIED CARD OF 'sequiturlaw13.WellClaims'. -/
def wellClaimsCard : Claim7 := { stood := { row := wellClaimsRow, standIns := [], harness := (true, "8002697ea33da25bed148ba95d20addd90d9493eee35f3a4d8142b35c20c0f9f"), looks := false }, kinds := [], alts := [], laidByText := true, laidKinds := [.data], laidTests := true, laidLooks := .later }
def WellClaimsCardSaid : Prop := Claim7.holds Tryd.pinned (.plain (OpenSpec.ofChange wellClaimsSpec)) wellClaimsCard

/-- THE TIED CARD OF 'sequiturlaw13.WellDeep'. -/
def wellDeepCard : Claim7 := { stood := { row := wellDeepRow, standIns := [], harness := (true, "8002697ea33da25bed148ba95d20addd90d9493eee35f3a4d8142b35c20c0f9f"), looks := false }, kinds := [], alts := [], laidByText := true, laidKinds := [.data], laidTests := true, laidLooks := .later }
def WellDeepCardSaid : Prop := Claim7.holds Tryd.pinned (.plain (OpenSpec.ofChange wellDeepSpec)) wellDeepCard

/-- THE TIED CARD OF 'sequiturlaw13.WellMore'. -/
def wellMoreCard : Claim7 := { stood := { row := wellMoreRow, standIns := [], harness := (true, "8002697ea33da25bed148ba95d20addd90d9493eee35f3a4d8142b35c20c0f9f"), looks := false }, kinds := [], alts := [], laidByText := true, laidKinds := [.data], laidTests := true, laidLooks := .later }
def WellMoreCardSaid : Prop := Claim7.holds Tryd.pinned (.plain (OpenSpec.ofChange wellMoreSpec)) wellMoreCard

/-- THE TIED CARD OF 'sequiturlaw13.WellVars'. -/
def wellVarsCard : Claim7 := { stood := { row := wellVarsRow, standIns := [], harness := (true, "8002697ea33da25bed148ba95d20addd90d9493eee35f3a4d8142b35c20c0f9f"), looks := false }, kinds := [], alts := [], laidByText := true, laidKinds := [.data, .listed, .data], laidTests := true, laidLooks := .later }
def WellVarsCardSaid : Prop := Claim7.holds Tryd.pinned (.plain (OpenSpec.ofChange wellVarsSpec)) wellVarsCard

/-- THE SECOND FORM's CARD OF 'sequiturlaw13.WellTerms'. -/
def wellTermsUptoCard : Claim7 := { stood := { row := wellTermsUptoRow, standIns := [], harness := (true, "8002697ea33da25bed148ba95d20addd90d9493eee35f3a4d8142b35c20c0f9f"), looks := false }, kinds := [], alts := [], laidByText := true, laidKinds := [.data], laidTests := true, laidLooks := .later }
def WellTermsUptoCardSaid : Prop := Claim7.holds Tryd.pinned (.plain (OpenSpec.upto wellTermsSpec)) wellTermsUptoCard

/-- THE SECOND FORM's CARD OF 'sequiturlaw13.WellPuts'. -/
def wellPutsUptoCard : Claim7 := { stood := { row := wellPutsUptoRow, standIns := [], harness := (true, "8002697ea33da25bed148ba95d20addd90d9493eee35f3a4d8142b35c20c0f9f"), looks := false }, kinds := [], alts := [], laidByText := true, laidKinds := [.data], laidTests := true, laidLooks := .later }
def WellPutsUptoCardSaid : Prop := Claim7.holds Tryd.pinned (.plain (OpenSpec.upto wellPutsSpec)) wellPutsUptoCard

/-- THE SECOND FORM's CARD OF 'sequiturlaw13.WellClaims'. -/
def wellClaimsUptoCard : Claim7 := { stood := { row := wellClaimsUptoRow, standIns := [], harness := (true, "8002697ea33da25bed148ba95d20addd90d9493eee35f3a4d8142b35c20c0f9f"), looks := false }, kinds := [], alts := [], laidByText := true, laidKinds := [.data], laidTests := true, laidLooks := .later }
def WellClaimsUptoCardSaid : Prop := Claim7.holds Tryd.pinned (.plain (OpenSpec.upto wellClaimsSpec)) wellClaimsUptoCard

/-- THE SECOND FORM's CARD OF 'sequiturlaw13.WellDeep'. -/
def wellDeepUptoCard : Claim7 := { stood := { row := wellDeepUptoRow, standIns := [], harness := (true, "8002697ea33da25bed148ba95d20addd90d9493eee35f3a4d8142b35c20c0f9f"), looks := false }, kinds := [], alts := [], laidByText := true, laidKinds := [.data], laidTests := true, laidLooks := .later }
def WellDeepUptoCardSaid : Prop := Claim7.holds Tryd.pinned (.plain (OpenSpec.upto wellDeepSpec)) wellDeepUptoCard

/-- THE SECOND FORM's CARD OF 'sequiturlaw13.WellMore'. -/
def wellMoreUptoCard : Claim7 := { stood := { row := wellMoreUptoRow, standIns := [], harness := (true, "8002697ea33da25bed148ba95d20addd90d9493eee35f3a4d8142b35c20c0f9f"), looks := false }, kinds := [], alts := [], laidByText := true, laidKinds := [.data], laidTests := true, laidLooks := .later }
def WellMoreUptoCardSaid : Prop := Claim7.holds Tryd.pinned (.plain (OpenSpec.upto wellMoreSpec)) wellMoreUptoCard

/-- THE SECOND FORM's CARD OF 'sequiturlaw13.WellVars'. -/
def wellVarsUptoCard : Claim7 := { stood := { row := wellVarsUptoRow, standIns := [], harness := (true, "8002697ea33da25bed148ba95d20addd90d9493eee35f3a4d8142b35c20c0f9f"), looks := false }, kinds := [], alts := [], laidByText := true, laidKinds := [.data, .listed, .data], laidTests := true, laidLooks := .later }
def WellVarsUptoCardSaid : Prop := Claim7.holds Tryd.pinned (.plain (OpenSpec.upto wellVarsSpec)) wellVarsUptoCard
end Rows
end Go.Proofs.YtjmbdejejlcklaaDoor
