/-
  DERIVED. GIVEN WITH THE SEED: THE CARDS: each row of YtjahkimgmmcljaaDoorRows.lean that lists a variable, with what it lists TIED to the program's text (the seventh form; the later family's looks); each row that meets fmt, with fmt's text TOLD by the authors' own Lean function (tested against real Go, not proved from fmt's source: count such statements apart). THE CARD IS WHAT COUNTS. Prove the row's statement (the work); the ties are given (YtjahkimgmmcljaaDoorTie.lean); close each card by the builder's one call (the guide's Derived/Test/ToyasCard.lean, 'card_holds'). Laid BY PROGRAM, IN A SANDBOX (cutbox-door.mjs). By AI agents, Wed Nov 11 2026. No macro, syntax, notation, axiom, sorry.
-/
import Derived.Test.YtjahkimgmmcljaaDoorRows
import GoSem.ClaimSeven
namespace Go.Proofs.YtjahkimgmmcljaaDoor
namespace Rows

/-- THE TIED CARD OF 'sequiturlaw13.WellTerms'. -/
def wellTermsCard : Claim7 := { stood := { row := wellTermsRow, standIns := [], harness := (true, "cc2eb5378db6aad76a5970da31422caf4de753d9f74dae07ff46245ef17a5fab"), looks := false }, kinds := [], alts := [], laidByText := true, laidKinds := [.data], laidTests := true, laidLooks := .later }
def WellTermsCardSaid : Prop := Claim7.holds Tryd.pinned (.plain (OpenSpec.ofChange wellTermsSpec)) wellTermsCard

/-- THE TIED CARD OF 'sequiturlaw13.WellPuts'. -/
def wellPutsCard : Claim7 := { stood := { row := wellPutsRow, standIns := [], harness := (true, "cc2eb5378db6aad76a5970da31422caf4de753d9f74dae07ff46245ef17a5fab"), looks := false }, kinds := [], alts := [], laidByText := true, laidKinds := [.data], laidTests := true, laidLooks := .later }
def WellPutsCardSaid : Prop := Claim7.holds Tryd.pinned (.plain (OpenSpec.ofChange wellPutsSpec)) wellPutsCard

/-- THE TIED CARD OF 'sequiturlaw13.WellClaims'. -/
def wellClaimsCard : Claim7 := { stood := { row := wellClaimsRow, standIns := [], harness := (true, "cc2eb5378db6aad76a5970da31422caf4de753d9f74dae07ff46245ef17a5fab"), looks := false }, kinds := [], alts := [], laidByText := true, laidKinds := [.data], laidTests := true, laidLooks := .later }
def WellClaimsCardSaid : Prop := Claim7.holds Tryd.pinned (.plain (OpenSpec.ofChange wellClaimsSpec)) wellClaimsCard

/-- THE TIED CARD OF 'sequiturlaw13.WellDeep'. -/
def wellDeepCard : Claim7 := { stood := { row := wellDeepRow, standIns := [], harness := (true, "cc2eb5378db6aad76a5970da31422caf4de753d9f74dae07ff46245ef17a5fab"), looks := false }, kinds := [], alts := [], laidByText := true, laidKinds := [.data], laidTests := true, laidLooks := .later }
def WellDeepCardSaid : Prop := Claim7.holds Tryd.pinned (.plain (OpenSpec.ofChange wellDeepSpec)) wellDeepCard

/-- THE TIED CARD OF 'sequiturlaw13.WellMore'. -/
def wellMoreCard : Claim7 := { stood := { row := wellMoreRow, standIns := [], harness := (true, "cc2eb5378db6aad76a5970da31422caf4de753d9f74dae07ff46245ef17a5fab"), looks := false }, kinds := [], alts := [], laidByText := true, laidKinds := [.data], laidTests := true, laidLooks := .later }
def WellMoreCardSaid : Prop := Claim7.holds Tryd.pinned (.plain (OpenSpec.ofChange wellMoreSpec)) wellMoreCard

/-- THE TIED CARD OF 'sequiturlaw13.WellVars'. -/
def wellVarsCard : Claim7 := { stood := { row := wellVarsRow, standIns := [], harness := (true, "cc2eb5378db6aad76a5970da31422caf4de753d9f74dae07ff46245ef17a5fab"), looks := false }, kinds := [], alts := [], laidByText := true, laidKinds := [.data, .listed, .data], laidTests := true, laidLooks := .later }
def WellVarsCardSaid : Prop := Claim7.holds Tryd.pinned (.plain (OpenSpec.ofChange wellVarsSpec)) wellVarsCard

/-- THE TIED CARD OF 'sequiturlaw14.ShowTerms'. -/
def showTermsCard : Claim7 := { stood := { row := showTermsRow, standIns := [], harness := (true, "cc2eb5378db6aad76a5970da31422caf4de753d9f74dae07ff46245ef17a5fab"), looks := false }, kinds := [], alts := [], laidByText := true, laidKinds := [.data, .data, .data, .listed, .data, .mapped, .mapped], laidTests := true, laidLooks := .later }
def ShowTermsCardSaid : Prop := Claim7.holds Tryd.pinned (.plain (OpenSpec.ofChange showTermsSpec)) showTermsCard

/-- THE TIED CARD OF 'sequiturlaw14.ShowClaims'. -/
def showClaimsCard : Claim7 := { stood := { row := showClaimsRow, standIns := [], harness := (true, "cc2eb5378db6aad76a5970da31422caf4de753d9f74dae07ff46245ef17a5fab"), looks := false }, kinds := [], alts := [], laidByText := true, laidKinds := [.data, .data, .data, .listed, .data, .mapped, .mapped], laidTests := true, laidLooks := .later }
def ShowClaimsCardSaid : Prop := Claim7.holds Tryd.pinned (.plain (OpenSpec.ofChange showClaimsSpec)) showClaimsCard

/-- THE TIED CARD OF 'sequiturlaw14.ShowFresh'. -/
def showFreshCard : Claim7 := { stood := { row := showFreshRow, standIns := [], harness := (true, "cc2eb5378db6aad76a5970da31422caf4de753d9f74dae07ff46245ef17a5fab"), looks := false }, kinds := [], alts := [], laidByText := true, laidKinds := [.data, .data, .data, .listed, .data, .mapped, .mapped], laidTests := true, laidLooks := .later }
def ShowFreshCardSaid : Prop := Claim7.holds Tryd.pinned (.plain (OpenSpec.ofChange showFreshSpec)) showFreshCard

/-- THE TIED CARD OF 'sequiturlaw14.ShowBrackets'. -/
def showBracketsCard : Claim7 := { stood := { row := showBracketsRow, standIns := [], harness := (true, "cc2eb5378db6aad76a5970da31422caf4de753d9f74dae07ff46245ef17a5fab"), looks := false }, kinds := [], alts := [], laidByText := true, laidKinds := [.data, .data, .data, .listed, .data, .mapped, .mapped], laidTests := true, laidLooks := .later }
def ShowBracketsCardSaid : Prop := Claim7.holds Tryd.pinned (.plain (OpenSpec.ofChange showBracketsSpec)) showBracketsCard

/-- THE TIED CARD OF 'sequiturlaw14.ShowSeqs'. -/
def showSeqsCard : Claim7 := { stood := { row := showSeqsRow, standIns := [], harness := (true, "cc2eb5378db6aad76a5970da31422caf4de753d9f74dae07ff46245ef17a5fab"), looks := false }, kinds := [], alts := [], laidByText := true, laidKinds := [.data, .data, .data, .listed, .data, .mapped, .mapped], laidTests := true, laidLooks := .later }
def ShowSeqsCardSaid : Prop := Claim7.holds Tryd.pinned (.plain (OpenSpec.ofChange showSeqsSpec)) showSeqsCard

/-- THE TIED CARD OF 'sequiturlaw14.ShowFuns'. -/
def showFunsCard : Claim7 := { stood := { row := showFunsRow, standIns := [], harness := (true, "cc2eb5378db6aad76a5970da31422caf4de753d9f74dae07ff46245ef17a5fab"), looks := false }, kinds := [], alts := [], laidByText := true, laidKinds := [.data, .data, .data, .listed, .data, .mapped, .mapped], laidTests := true, laidLooks := .later }
def ShowFunsCardSaid : Prop := Claim7.holds Tryd.pinned (.plain (OpenSpec.ofChange showFunsSpec)) showFunsCard

/-- THE TIED CARD OF 'sequiturlaw36.SeqBack'. -/
def seqBackCard : Claim7 := { stood := { row := seqBackRow, standIns := [], harness := (true, "cc2eb5378db6aad76a5970da31422caf4de753d9f74dae07ff46245ef17a5fab"), looks := false }, kinds := [], alts := [], laidByText := true, laidKinds := [.data, .data, .data, .listed, .data], laidTests := true, laidLooks := .later }
def SeqBackCardSaid : Prop := Claim7.holds Tryd.pinned (.plain (OpenSpec.ofChange seqBackSpec)) seqBackCard

/-- THE SECOND FORM's CARD OF 'sequiturlaw13.WellTerms'. -/
def wellTermsUptoCard : Claim7 := { stood := { row := wellTermsUptoRow, standIns := [], harness := (true, "cc2eb5378db6aad76a5970da31422caf4de753d9f74dae07ff46245ef17a5fab"), looks := false }, kinds := [], alts := [], laidByText := true, laidKinds := [.data], laidTests := true, laidLooks := .later }
def WellTermsUptoCardSaid : Prop := Claim7.holds Tryd.pinned (.plain (OpenSpec.upto wellTermsSpec)) wellTermsUptoCard

/-- THE SECOND FORM's CARD OF 'sequiturlaw13.WellPuts'. -/
def wellPutsUptoCard : Claim7 := { stood := { row := wellPutsUptoRow, standIns := [], harness := (true, "cc2eb5378db6aad76a5970da31422caf4de753d9f74dae07ff46245ef17a5fab"), looks := false }, kinds := [], alts := [], laidByText := true, laidKinds := [.data], laidTests := true, laidLooks := .later }
def WellPutsUptoCardSaid : Prop := Claim7.holds Tryd.pinned (.plain (OpenSpec.upto wellPutsSpec)) wellPutsUptoCard

/-- THE SECOND FORM's CARD OF 'sequiturlaw13.WellClaims'. -/
def wellClaimsUptoCard : Claim7 := { stood := { row := wellClaimsUptoRow, standIns := [], harness := (true, "cc2eb5378db6aad76a5970da31422caf4de753d9f74dae07ff46245ef17a5fab"), looks := false }, kinds := [], alts := [], laidByText := true, laidKinds := [.data], laidTests := true, laidLooks := .later }
def WellClaimsUptoCardSaid : Prop := Claim7.holds Tryd.pinned (.plain (OpenSpec.upto wellClaimsSpec)) wellClaimsUptoCard

/-- THE SECOND FORM's CARD OF 'sequiturlaw13.WellDeep'. -/
def wellDeepUptoCard : Claim7 := { stood := { row := wellDeepUptoRow, standIns := [], harness := (true, "cc2eb5378db6aad76a5970da31422caf4de753d9f74dae07ff46245ef17a5fab"), looks := false }, kinds := [], alts := [], laidByText := true, laidKinds := [.data], laidTests := true, laidLooks := .later }
def WellDeepUptoCardSaid : Prop := Claim7.holds Tryd.pinned (.plain (OpenSpec.upto wellDeepSpec)) wellDeepUptoCard

/-- THE SECOND FORM's CARD OF 'sequiturlaw13.WellMore'. -/
def wellMoreUptoCard : Claim7 := { stood := { row := wellMoreUptoRow, standIns := [], harness := (true, "cc2eb5378db6aad76a5970da31422caf4de753d9f74dae07ff46245ef17a5fab"), looks := false }, kinds := [], alts := [], laidByText := true, laidKinds := [.data], laidTests := true, laidLooks := .later }
def WellMoreUptoCardSaid : Prop := Claim7.holds Tryd.pinned (.plain (OpenSpec.upto wellMoreSpec)) wellMoreUptoCard

/-- THE SECOND FORM's CARD OF 'sequiturlaw13.WellVars'. -/
def wellVarsUptoCard : Claim7 := { stood := { row := wellVarsUptoRow, standIns := [], harness := (true, "cc2eb5378db6aad76a5970da31422caf4de753d9f74dae07ff46245ef17a5fab"), looks := false }, kinds := [], alts := [], laidByText := true, laidKinds := [.data, .listed, .data], laidTests := true, laidLooks := .later }
def WellVarsUptoCardSaid : Prop := Claim7.holds Tryd.pinned (.plain (OpenSpec.upto wellVarsSpec)) wellVarsUptoCard

/-- THE SECOND FORM's CARD OF 'sequiturlaw14.ShowTerms'. -/
def showTermsUptoCard : Claim7 := { stood := { row := showTermsUptoRow, standIns := [], harness := (true, "cc2eb5378db6aad76a5970da31422caf4de753d9f74dae07ff46245ef17a5fab"), looks := false }, kinds := [], alts := [], laidByText := true, laidKinds := [.data, .data, .data, .listed, .data, .mapped, .mapped], laidTests := true, laidLooks := .later }
def ShowTermsUptoCardSaid : Prop := Claim7.holds Tryd.pinned (.plain (OpenSpec.upto showTermsSpec)) showTermsUptoCard

/-- THE SECOND FORM's CARD OF 'sequiturlaw14.ShowClaims'. -/
def showClaimsUptoCard : Claim7 := { stood := { row := showClaimsUptoRow, standIns := [], harness := (true, "cc2eb5378db6aad76a5970da31422caf4de753d9f74dae07ff46245ef17a5fab"), looks := false }, kinds := [], alts := [], laidByText := true, laidKinds := [.data, .data, .data, .listed, .data, .mapped, .mapped], laidTests := true, laidLooks := .later }
def ShowClaimsUptoCardSaid : Prop := Claim7.holds Tryd.pinned (.plain (OpenSpec.upto showClaimsSpec)) showClaimsUptoCard

/-- THE SECOND FORM's CARD OF 'sequiturlaw14.ShowFresh'. -/
def showFreshUptoCard : Claim7 := { stood := { row := showFreshUptoRow, standIns := [], harness := (true, "cc2eb5378db6aad76a5970da31422caf4de753d9f74dae07ff46245ef17a5fab"), looks := false }, kinds := [], alts := [], laidByText := true, laidKinds := [.data, .data, .data, .listed, .data, .mapped, .mapped], laidTests := true, laidLooks := .later }
def ShowFreshUptoCardSaid : Prop := Claim7.holds Tryd.pinned (.plain (OpenSpec.upto showFreshSpec)) showFreshUptoCard

/-- THE SECOND FORM's CARD OF 'sequiturlaw14.ShowBrackets'. -/
def showBracketsUptoCard : Claim7 := { stood := { row := showBracketsUptoRow, standIns := [], harness := (true, "cc2eb5378db6aad76a5970da31422caf4de753d9f74dae07ff46245ef17a5fab"), looks := false }, kinds := [], alts := [], laidByText := true, laidKinds := [.data, .data, .data, .listed, .data, .mapped, .mapped], laidTests := true, laidLooks := .later }
def ShowBracketsUptoCardSaid : Prop := Claim7.holds Tryd.pinned (.plain (OpenSpec.upto showBracketsSpec)) showBracketsUptoCard

/-- THE SECOND FORM's CARD OF 'sequiturlaw14.ShowSeqs'. -/
def showSeqsUptoCard : Claim7 := { stood := { row := showSeqsUptoRow, standIns := [], harness := (true, "cc2eb5378db6aad76a5970da31422caf4de753d9f74dae07ff46245ef17a5fab"), looks := false }, kinds := [], alts := [], laidByText := true, laidKinds := [.data, .data, .data, .listed, .data, .mapped, .mapped], laidTests := true, laidLooks := .later }
def ShowSeqsUptoCardSaid : Prop := Claim7.holds Tryd.pinned (.plain (OpenSpec.upto showSeqsSpec)) showSeqsUptoCard

/-- THE SECOND FORM's CARD OF 'sequiturlaw14.ShowFuns'. -/
def showFunsUptoCard : Claim7 := { stood := { row := showFunsUptoRow, standIns := [], harness := (true, "cc2eb5378db6aad76a5970da31422caf4de753d9f74dae07ff46245ef17a5fab"), looks := false }, kinds := [], alts := [], laidByText := true, laidKinds := [.data, .data, .data, .listed, .data, .mapped, .mapped], laidTests := true, laidLooks := .later }
def ShowFunsUptoCardSaid : Prop := Claim7.holds Tryd.pinned (.plain (OpenSpec.upto showFunsSpec)) showFunsUptoCard

/-- THE SECOND FORM's CARD OF 'sequiturlaw36.SeqBack'. -/
def seqBackUptoCard : Claim7 := { stood := { row := seqBackUptoRow, standIns := [], harness := (true, "cc2eb5378db6aad76a5970da31422caf4de753d9f74dae07ff46245ef17a5fab"), looks := false }, kinds := [], alts := [], laidByText := true, laidKinds := [.data, .data, .data, .listed, .data], laidTests := true, laidLooks := .later }
def SeqBackUptoCardSaid : Prop := Claim7.holds Tryd.pinned (.plain (OpenSpec.upto seqBackSpec)) seqBackUptoCard
end Rows
end Go.Proofs.YtjahkimgmmcljaaDoor
