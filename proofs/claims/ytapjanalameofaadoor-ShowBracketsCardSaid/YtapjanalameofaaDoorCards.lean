/-
  DERIVED. GIVEN WITH THE SEED: THE CARDS: each row of YtapjanalameofaaDoorRows.lean that lists a variable, with what it lists TIED to the program's text (the seventh form; the later family's looks); each row that meets fmt, with fmt's text TOLD by the authors' own Lean function (tested against real Go, not proved from fmt's source: count such statements apart). THE CARD IS WHAT COUNTS. Prove the row's statement (the work); the ties are given (YtapjanalameofaaDoorTie.lean); close each card by the builder's one call (the guide's Derived/Test/ToyasCard.lean, 'card_holds'). Laid BY PROGRAM, IN A SANDBOX (cutbox-door.mjs). By AI agents, Wed Nov 11 2026. No macro, syntax, notation, axiom, sorry.
-/
import Derived.Test.YtapjanalameofaaDoorRows
import GoSem.ClaimSeven
namespace Go.Proofs.YtapjanalameofaaDoor
namespace Rows

/-- THE TIED CARD OF 'sequiturlaw14.ShowTerms'. -/
def showTermsCard : Claim7 := { stood := { row := showTermsRow, standIns := [], harness := (true, "469799dc0070c4070fd89ac0fa17dcafec5fec16913c68588e002d6d8338d8b5"), looks := false }, kinds := [], alts := [], laidByText := true, laidKinds := [.data, .data, .data, .listed, .data, .mapped, .mapped], laidTests := true, laidLooks := .later }
def ShowTermsCardSaid : Prop := Claim7.holds Tryd.pinned (.plain (OpenSpec.ofChange showTermsSpec)) showTermsCard

/-- THE TIED CARD OF 'sequiturlaw14.ShowClaims'. -/
def showClaimsCard : Claim7 := { stood := { row := showClaimsRow, standIns := [], harness := (true, "469799dc0070c4070fd89ac0fa17dcafec5fec16913c68588e002d6d8338d8b5"), looks := false }, kinds := [], alts := [], laidByText := true, laidKinds := [.data, .data, .data, .listed, .data, .mapped, .mapped], laidTests := true, laidLooks := .later }
def ShowClaimsCardSaid : Prop := Claim7.holds Tryd.pinned (.plain (OpenSpec.ofChange showClaimsSpec)) showClaimsCard

/-- THE TIED CARD OF 'sequiturlaw14.ShowFresh'. -/
def showFreshCard : Claim7 := { stood := { row := showFreshRow, standIns := [], harness := (true, "469799dc0070c4070fd89ac0fa17dcafec5fec16913c68588e002d6d8338d8b5"), looks := false }, kinds := [], alts := [], laidByText := true, laidKinds := [.data, .data, .data, .listed, .data, .mapped, .mapped], laidTests := true, laidLooks := .later }
def ShowFreshCardSaid : Prop := Claim7.holds Tryd.pinned (.plain (OpenSpec.ofChange showFreshSpec)) showFreshCard

/-- THE TIED CARD OF 'sequiturlaw14.ShowBrackets'. -/
def showBracketsCard : Claim7 := { stood := { row := showBracketsRow, standIns := [], harness := (true, "469799dc0070c4070fd89ac0fa17dcafec5fec16913c68588e002d6d8338d8b5"), looks := false }, kinds := [], alts := [], laidByText := true, laidKinds := [.data, .data, .data, .listed, .data, .mapped, .mapped], laidTests := true, laidLooks := .later }
def ShowBracketsCardSaid : Prop := Claim7.holds Tryd.pinned (.plain (OpenSpec.ofChange showBracketsSpec)) showBracketsCard

/-- THE TIED CARD OF 'sequiturlaw14.ShowSeqs'. -/
def showSeqsCard : Claim7 := { stood := { row := showSeqsRow, standIns := [], harness := (true, "469799dc0070c4070fd89ac0fa17dcafec5fec16913c68588e002d6d8338d8b5"), looks := false }, kinds := [], alts := [], laidByText := true, laidKinds := [.data, .data, .data, .listed, .data, .mapped, .mapped], laidTests := true, laidLooks := .later }
def ShowSeqsCardSaid : Prop := Claim7.holds Tryd.pinned (.plain (OpenSpec.ofChange showSeqsSpec)) showSeqsCard

/-- THE TIED CARD OF 'sequiturlaw14.ShowFuns'. -/
def showFunsCard : Claim7 := { stood := { row := showFunsRow, standIns := [], harness := (true, "469799dc0070c4070fd89ac0fa17dcafec5fec16913c68588e002d6d8338d8b5"), looks := false }, kinds := [], alts := [], laidByText := true, laidKinds := [.data, .data, .data, .listed, .data, .mapped, .mapped], laidTests := true, laidLooks := .later }
def ShowFunsCardSaid : Prop := Claim7.holds Tryd.pinned (.plain (OpenSpec.ofChange showFunsSpec)) showFunsCard

/-- THE SECOND FORM's CARD OF 'sequiturlaw14.ShowTerms'. -/
def showTermsUptoCard : Claim7 := { stood := { row := showTermsUptoRow, standIns := [], harness := (true, "469799dc0070c4070fd89ac0fa17dcafec5fec16913c68588e002d6d8338d8b5"), looks := false }, kinds := [], alts := [], laidByText := true, laidKinds := [.data, .data, .data, .listed, .data, .mapped, .mapped], laidTests := true, laidLooks := .later }
def ShowTermsUptoCardSaid : Prop := Claim7.holds Tryd.pinned (.plain (OpenSpec.upto showTermsSpec)) showTermsUptoCard

/-- THE SECOND FORM's CARD OF 'sequiturlaw14.ShowClaims'. -/
def showClaimsUptoCard : Claim7 := { stood := { row := showClaimsUptoRow, standIns := [], harness := (true, "469799dc0070c4070fd89ac0fa17dcafec5fec16913c68588e002d6d8338d8b5"), looks := false }, kinds := [], alts := [], laidByText := true, laidKinds := [.data, .data, .data, .listed, .data, .mapped, .mapped], laidTests := true, laidLooks := .later }
def ShowClaimsUptoCardSaid : Prop := Claim7.holds Tryd.pinned (.plain (OpenSpec.upto showClaimsSpec)) showClaimsUptoCard

/-- THE SECOND FORM's CARD OF 'sequiturlaw14.ShowFresh'. -/
def showFreshUptoCard : Claim7 := { stood := { row := showFreshUptoRow, standIns := [], harness := (true, "469799dc0070c4070fd89ac0fa17dcafec5fec16913c68588e002d6d8338d8b5"), looks := false }, kinds := [], alts := [], laidByText := true, laidKinds := [.data, .data, .data, .listed, .data, .mapped, .mapped], laidTests := true, laidLooks := .later }
def ShowFreshUptoCardSaid : Prop := Claim7.holds Tryd.pinned (.plain (OpenSpec.upto showFreshSpec)) showFreshUptoCard

/-- THE SECOND FORM's CARD OF 'sequiturlaw14.ShowBrackets'. -/
def showBracketsUptoCard : Claim7 := { stood := { row := showBracketsUptoRow, standIns := [], harness := (true, "469799dc0070c4070fd89ac0fa17dcafec5fec16913c68588e002d6d8338d8b5"), looks := false }, kinds := [], alts := [], laidByText := true, laidKinds := [.data, .data, .data, .listed, .data, .mapped, .mapped], laidTests := true, laidLooks := .later }
def ShowBracketsUptoCardSaid : Prop := Claim7.holds Tryd.pinned (.plain (OpenSpec.upto showBracketsSpec)) showBracketsUptoCard

/-- THE SECOND FORM's CARD OF 'sequiturlaw14.ShowSeqs'. -/
def showSeqsUptoCard : Claim7 := { stood := { row := showSeqsUptoRow, standIns := [], harness := (true, "469799dc0070c4070fd89ac0fa17dcafec5fec16913c68588e002d6d8338d8b5"), looks := false }, kinds := [], alts := [], laidByText := true, laidKinds := [.data, .data, .data, .listed, .data, .mapped, .mapped], laidTests := true, laidLooks := .later }
def ShowSeqsUptoCardSaid : Prop := Claim7.holds Tryd.pinned (.plain (OpenSpec.upto showSeqsSpec)) showSeqsUptoCard

/-- THE SECOND FORM's CARD OF 'sequiturlaw14.ShowFuns'. -/
def showFunsUptoCard : Claim7 := { stood := { row := showFunsUptoRow, standIns := [], harness := (true, "469799dc0070c4070fd89ac0fa17dcafec5fec16913c68588e002d6d8338d8b5"), looks := false }, kinds := [], alts := [], laidByText := true, laidKinds := [.data, .data, .data, .listed, .data, .mapped, .mapped], laidTests := true, laidLooks := .later }
def ShowFunsUptoCardSaid : Prop := Claim7.holds Tryd.pinned (.plain (OpenSpec.upto showFunsSpec)) showFunsUptoCard
end Rows
end Go.Proofs.YtapjanalameofaaDoor
