/-
  DERIVED. GIVEN WITH THE SEED: THE CARDS: each row of YtdmoipccmbimhaaGreatDoorRows.lean that lists a variable, with what it lists TIED to the program's text (the seventh form; the later family's looks); each row that meets fmt, with fmt's text TOLD by the authors' own Lean function (tested against real Go, not proved from fmt's source: count such statements apart). THE CARD IS WHAT COUNTS. Prove the row's statement (the work); the ties are given (YtdmoipccmbimhaaGreatDoorTie.lean); close each card by the builder's one call (the guide's Derived/Test/ToyasCard.lean, 'card_holds'). Laid BY PROGRAM, IN A SANDBOX (cutbox-door.mjs). By AI agents, Wed Nov 11 2026. No macro, syntax, notation, axiom, sorry.
-/
import Derived.Test.YtdmoipccmbimhaaGreatDoorRows
import GoSem.ClaimSeven
namespace Go.Proofs.YtdmoipccmbimhaaGreatDoor
namespace Rows

/-- THE TIED CARD OF 'sequiturlaw16.WorldRights'. -/
def worldRightsCard : Claim7 := { stood := { row := worldRightsRow, standIns := [], harness := (true, "6b7e6d9ad0dbd1cebb44d148afd7867e813b8839ed8816a318531def7a0db3cc"), looks := false }, kinds := [], alts := [], laidByText := true, laidKinds := [.data, .listed, .data], laidTests := true, laidLooks := .later }
def WorldRightsCardSaid : Prop := Claim7.holds Tryz.pinned (.plain (OpenSpec.ofChange worldRightsSpec)) worldRightsCard

/-- THE TIED CARD OF 'sequiturlaw16.WorldClaims'. -/
def worldClaimsCard : Claim7 := { stood := { row := worldClaimsRow, standIns := [], harness := (true, "6b7e6d9ad0dbd1cebb44d148afd7867e813b8839ed8816a318531def7a0db3cc"), looks := false }, kinds := [], alts := [], laidByText := true, laidKinds := [.data, .listed, .data], laidTests := true, laidLooks := .later }
def WorldClaimsCardSaid : Prop := Claim7.holds Tryz.pinned (.plain (OpenSpec.ofChange worldClaimsSpec)) worldClaimsCard

/-- THE TIED CARD OF 'sequiturlaw16.WorldAlike'. -/
def worldAlikeCard : Claim7 := { stood := { row := worldAlikeRow, standIns := [], harness := (true, "6b7e6d9ad0dbd1cebb44d148afd7867e813b8839ed8816a318531def7a0db3cc"), looks := false }, kinds := [], alts := [], laidByText := true, laidKinds := [.data, .listed, .data], laidTests := true, laidLooks := .later }
def WorldAlikeCardSaid : Prop := Claim7.holds Tryz.pinned (.plain (OpenSpec.ofChange worldAlikeSpec)) worldAlikeCard

/-- THE TIED CARD OF 'sequiturlaw16.WorldTerms'. -/
def worldTermsCard : Claim7 := { stood := { row := worldTermsRow, standIns := [], harness := (true, "6b7e6d9ad0dbd1cebb44d148afd7867e813b8839ed8816a318531def7a0db3cc"), looks := false }, kinds := [], alts := [], laidByText := true, laidKinds := [.data, .listed, .data], laidTests := true, laidLooks := .later }
def WorldTermsCardSaid : Prop := Claim7.holds Tryz.pinned (.plain (OpenSpec.ofChange worldTermsSpec)) worldTermsCard

/-- THE TIED CARD OF 'sequiturlaw16.WorldPuts'. -/
def worldPutsCard : Claim7 := { stood := { row := worldPutsRow, standIns := [], harness := (true, "6b7e6d9ad0dbd1cebb44d148afd7867e813b8839ed8816a318531def7a0db3cc"), looks := false }, kinds := [], alts := [], laidByText := true, laidKinds := [.data, .listed, .data], laidTests := true, laidLooks := .later }
def WorldPutsCardSaid : Prop := Claim7.holds Tryz.pinned (.plain (OpenSpec.ofChange worldPutsSpec)) worldPutsCard

/-- THE TIED CARD OF 'sequiturlaw16.WorldMakes'. -/
def worldMakesCard : Claim7 := { stood := { row := worldMakesRow, standIns := [], harness := (true, "6b7e6d9ad0dbd1cebb44d148afd7867e813b8839ed8816a318531def7a0db3cc"), looks := false }, kinds := [], alts := [], laidByText := true, laidKinds := [.data, .listed, .data], laidTests := true, laidLooks := .later }
def WorldMakesCardSaid : Prop := Claim7.holds Tryz.pinned (.plain (OpenSpec.ofChange worldMakesSpec)) worldMakesCard

/-- THE TIED CARD OF 'sequiturlaw16.WorldSeqs'. -/
def worldSeqsCard : Claim7 := { stood := { row := worldSeqsRow, standIns := [], harness := (true, "6b7e6d9ad0dbd1cebb44d148afd7867e813b8839ed8816a318531def7a0db3cc"), looks := false }, kinds := [], alts := [], laidByText := true, laidKinds := [.data, .listed, .data], laidTests := true, laidLooks := .later }
def WorldSeqsCardSaid : Prop := Claim7.holds Tryz.pinned (.plain (OpenSpec.ofChange worldSeqsSpec)) worldSeqsCard

/-- THE SECOND FORM's CARD OF 'sequiturlaw16.WorldRights'. -/
def worldRightsUptoCard : Claim7 := { stood := { row := worldRightsUptoRow, standIns := [], harness := (true, "6b7e6d9ad0dbd1cebb44d148afd7867e813b8839ed8816a318531def7a0db3cc"), looks := false }, kinds := [], alts := [], laidByText := true, laidKinds := [.data, .listed, .data], laidTests := true, laidLooks := .later }
def WorldRightsUptoCardSaid : Prop := Claim7.holds Tryz.pinned (.plain (OpenSpec.upto worldRightsSpec)) worldRightsUptoCard

/-- THE SECOND FORM's CARD OF 'sequiturlaw16.WorldClaims'. -/
def worldClaimsUptoCard : Claim7 := { stood := { row := worldClaimsUptoRow, standIns := [], harness := (true, "6b7e6d9ad0dbd1cebb44d148afd7867e813b8839ed8816a318531def7a0db3cc"), looks := false }, kinds := [], alts := [], laidByText := true, laidKinds := [.data, .listed, .data], laidTests := true, laidLooks := .later }
def WorldClaimsUptoCardSaid : Prop := Claim7.holds Tryz.pinned (.plain (OpenSpec.upto worldClaimsSpec)) worldClaimsUptoCard

/-- THE SECOND FORM's CARD OF 'sequiturlaw16.WorldAlike'. -/
def worldAlikeUptoCard : Claim7 := { stood := { row := worldAlikeUptoRow, standIns := [], harness := (true, "6b7e6d9ad0dbd1cebb44d148afd7867e813b8839ed8816a318531def7a0db3cc"), looks := false }, kinds := [], alts := [], laidByText := true, laidKinds := [.data, .listed, .data], laidTests := true, laidLooks := .later }
def WorldAlikeUptoCardSaid : Prop := Claim7.holds Tryz.pinned (.plain (OpenSpec.upto worldAlikeSpec)) worldAlikeUptoCard

/-- THE SECOND FORM's CARD OF 'sequiturlaw16.WorldTerms'. -/
def worldTermsUptoCard : Claim7 := { stood := { row := worldTermsUptoRow, standIns := [], harness := (true, "6b7e6d9ad0dbd1cebb44d148afd7867e813b8839ed8816a318531def7a0db3cc"), looks := false }, kinds := [], alts := [], laidByText := true, laidKinds := [.data, .listed, .data], laidTests := true, laidLooks := .later }
def WorldTermsUptoCardSaid : Prop := Claim7.holds Tryz.pinned (.plain (OpenSpec.upto worldTermsSpec)) worldTermsUptoCard

/-- THE SECOND FORM's CARD OF 'sequiturlaw16.WorldPuts'. -/
def worldPutsUptoCard : Claim7 := { stood := { row := worldPutsUptoRow, standIns := [], harness := (true, "6b7e6d9ad0dbd1cebb44d148afd7867e813b8839ed8816a318531def7a0db3cc"), looks := false }, kinds := [], alts := [], laidByText := true, laidKinds := [.data, .listed, .data], laidTests := true, laidLooks := .later }
def WorldPutsUptoCardSaid : Prop := Claim7.holds Tryz.pinned (.plain (OpenSpec.upto worldPutsSpec)) worldPutsUptoCard

/-- THE SECOND FORM's CARD OF 'sequiturlaw16.WorldMakes'. -/
def worldMakesUptoCard : Claim7 := { stood := { row := worldMakesUptoRow, standIns := [], harness := (true, "6b7e6d9ad0dbd1cebb44d148afd7867e813b8839ed8816a318531def7a0db3cc"), looks := false }, kinds := [], alts := [], laidByText := true, laidKinds := [.data, .listed, .data], laidTests := true, laidLooks := .later }
def WorldMakesUptoCardSaid : Prop := Claim7.holds Tryz.pinned (.plain (OpenSpec.upto worldMakesSpec)) worldMakesUptoCard

/-- THE SECOND FORM's CARD OF 'sequiturlaw16.WorldSeqs'. -/
def worldSeqsUptoCard : Claim7 := { stood := { row := worldSeqsUptoRow, standIns := [], harness := (true, "6b7e6d9ad0dbd1cebb44d148afd7867e813b8839ed8816a318531def7a0db3cc"), looks := false }, kinds := [], alts := [], laidByText := true, laidKinds := [.data, .listed, .data], laidTests := true, laidLooks := .later }
def WorldSeqsUptoCardSaid : Prop := Claim7.holds Tryz.pinned (.plain (OpenSpec.upto worldSeqsSpec)) worldSeqsUptoCard
end Rows
end Go.Proofs.YtdmoipccmbimhaaGreatDoor
