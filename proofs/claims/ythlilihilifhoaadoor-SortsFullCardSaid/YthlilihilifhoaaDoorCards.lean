/-
  DERIVED. GIVEN WITH THE SEED: THE CARDS: each row of YthlilihilifhoaaDoorRows.lean that lists a variable, with what it lists TIED to the program's text (the seventh form; the later family's looks); each row that meets fmt, with fmt's text TOLD by the authors' own Lean function (tested against real Go, not proved from fmt's source: count such statements apart). THE CARD IS WHAT COUNTS. Prove the row's statement (the work); the ties are given (YthlilihilifhoaaDoorTie.lean); close each card by the builder's one call (the guide's Derived/Test/ToyasCard.lean, 'card_holds'). Laid BY PROGRAM, IN A SANDBOX (cutbox-door.mjs). By AI agents, Wed Nov 11 2026. No macro, syntax, notation, axiom, sorry.
-/
import Derived.Test.YthlilihilifhoaaDoorRows
import GoSem.ClaimSeven
namespace Go.Proofs.YthlilihilifhoaaDoor
namespace Rows

/-- THE TIED CARD OF 'sequiturlaw05.SortsRight'. -/
def sortsRightCard : Claim7 := { stood := { row := sortsRightRow, standIns := [], harness := (true, "ee9fb896757715d03304463665e7c9ad8210fe287593f392afc7b3669e58ae4a"), looks := false }, kinds := [], alts := [], laidByText := true, laidKinds := [.listed, .data], laidTests := true, laidLooks := .later }
def SortsRightCardSaid : Prop := Claim7.holds Tryd.pinned (.plain (OpenSpec.ofChange sortsRightSpec)) sortsRightCard

/-- THE TIED CARD OF 'sequiturlaw05.SortsPut'. -/
def sortsPutCard : Claim7 := { stood := { row := sortsPutRow, standIns := [], harness := (true, "ee9fb896757715d03304463665e7c9ad8210fe287593f392afc7b3669e58ae4a"), looks := false }, kinds := [], alts := [], laidByText := true, laidKinds := [.listed, .data], laidTests := true, laidLooks := .later }
def SortsPutCardSaid : Prop := Claim7.holds Tryd.pinned (.plain (OpenSpec.ofChange sortsPutSpec)) sortsPutCard

/-- THE TIED CARD OF 'sequiturlaw05.SortsFull'. -/
def sortsFullCard : Claim7 := { stood := { row := sortsFullRow, standIns := [], harness := (true, "ee9fb896757715d03304463665e7c9ad8210fe287593f392afc7b3669e58ae4a"), looks := false }, kinds := [], alts := [], laidByText := true, laidKinds := [.listed, .data], laidTests := true, laidLooks := .later }
def SortsFullCardSaid : Prop := Claim7.holds Tryd.pinned (.plain (OpenSpec.ofChange sortsFullSpec)) sortsFullCard

/-- THE TIED CARD OF 'sequiturlaw05.SortsPlaces'. -/
def sortsPlacesCard : Claim7 := { stood := { row := sortsPlacesRow, standIns := [], harness := (true, "ee9fb896757715d03304463665e7c9ad8210fe287593f392afc7b3669e58ae4a"), looks := false }, kinds := [], alts := [], laidByText := true, laidKinds := [.listed, .data], laidTests := true, laidLooks := .later }
def SortsPlacesCardSaid : Prop := Claim7.holds Tryd.pinned (.plain (OpenSpec.ofChange sortsPlacesSpec)) sortsPlacesCard

/-- THE TIED CARD OF 'sequiturlaw05.SortsKeeps'. -/
def sortsKeepsCard : Claim7 := { stood := { row := sortsKeepsRow, standIns := [], harness := (true, "ee9fb896757715d03304463665e7c9ad8210fe287593f392afc7b3669e58ae4a"), looks := false }, kinds := [], alts := [], laidByText := true, laidKinds := [.listed, .data], laidTests := true, laidLooks := .later }
def SortsKeepsCardSaid : Prop := Claim7.holds Tryd.pinned (.plain (OpenSpec.ofChange sortsKeepsSpec)) sortsKeepsCard

/-- THE SECOND FORM's CARD OF 'sequiturlaw05.SortsRight'. -/
def sortsRightUptoCard : Claim7 := { stood := { row := sortsRightUptoRow, standIns := [], harness := (true, "ee9fb896757715d03304463665e7c9ad8210fe287593f392afc7b3669e58ae4a"), looks := false }, kinds := [], alts := [], laidByText := true, laidKinds := [.listed, .data], laidTests := true, laidLooks := .later }
def SortsRightUptoCardSaid : Prop := Claim7.holds Tryd.pinned (.plain (OpenSpec.upto sortsRightSpec)) sortsRightUptoCard

/-- THE SECOND FORM's CARD OF 'sequiturlaw05.SortsPut'. -/
def sortsPutUptoCard : Claim7 := { stood := { row := sortsPutUptoRow, standIns := [], harness := (true, "ee9fb896757715d03304463665e7c9ad8210fe287593f392afc7b3669e58ae4a"), looks := false }, kinds := [], alts := [], laidByText := true, laidKinds := [.listed, .data], laidTests := true, laidLooks := .later }
def SortsPutUptoCardSaid : Prop := Claim7.holds Tryd.pinned (.plain (OpenSpec.upto sortsPutSpec)) sortsPutUptoCard

/-- THE SECOND FORM's CARD OF 'sequiturlaw05.SortsFull'. -/
def sortsFullUptoCard : Claim7 := { stood := { row := sortsFullUptoRow, standIns := [], harness := (true, "ee9fb896757715d03304463665e7c9ad8210fe287593f392afc7b3669e58ae4a"), looks := false }, kinds := [], alts := [], laidByText := true, laidKinds := [.listed, .data], laidTests := true, laidLooks := .later }
def SortsFullUptoCardSaid : Prop := Claim7.holds Tryd.pinned (.plain (OpenSpec.upto sortsFullSpec)) sortsFullUptoCard

/-- THE SECOND FORM's CARD OF 'sequiturlaw05.SortsPlaces'. -/
def sortsPlacesUptoCard : Claim7 := { stood := { row := sortsPlacesUptoRow, standIns := [], harness := (true, "ee9fb896757715d03304463665e7c9ad8210fe287593f392afc7b3669e58ae4a"), looks := false }, kinds := [], alts := [], laidByText := true, laidKinds := [.listed, .data], laidTests := true, laidLooks := .later }
def SortsPlacesUptoCardSaid : Prop := Claim7.holds Tryd.pinned (.plain (OpenSpec.upto sortsPlacesSpec)) sortsPlacesUptoCard

/-- THE SECOND FORM's CARD OF 'sequiturlaw05.SortsKeeps'. -/
def sortsKeepsUptoCard : Claim7 := { stood := { row := sortsKeepsUptoRow, standIns := [], harness := (true, "ee9fb896757715d03304463665e7c9ad8210fe287593f392afc7b3669e58ae4a"), looks := false }, kinds := [], alts := [], laidByText := true, laidKinds := [.listed, .data], laidTests := true, laidLooks := .later }
def SortsKeepsUptoCardSaid : Prop := Claim7.holds Tryd.pinned (.plain (OpenSpec.upto sortsKeepsSpec)) sortsKeepsUptoCard
end Rows
end Go.Proofs.YthlilihilifhoaaDoor
