/-
  DERIVED. GIVEN WITH THE SEED: THE CARDS: each row of YtdnlaeefalmgpaaDoorRows.lean that lists a variable, with what it lists TIED to the program's text (the seventh form; the later family's looks); each row that meets fmt, with fmt's text TOLD by the authors' own Lean function (tested against real Go, not proved from fmt's source: count such statements apart). THE CARD IS WHAT COUNTS. Prove the row's statement (the work); the ties are given (YtdnlaeefalmgpaaDoorTie.lean); close each card by the builder's one call (the guide's Derived/Test/ToyasCard.lean, 'card_holds'). Laid BY PROGRAM, IN A SANDBOX (cutbox-door.mjs). By AI agents, Wed Nov 11 2026. No macro, syntax, notation, axiom, sorry.
-/
import Derived.Test.YtdnlaeefalmgpaaDoorRows
import GoSem.ClaimSeven
namespace Go.Proofs.YtdnlaeefalmgpaaDoor
namespace Rows

/-- THE TIED CARD OF 'sequiturlaw06.SignMany'. -/
def signManyCard : Claim7 := { stood := { row := signManyRow, standIns := [], harness := (true, "667a492e1472e3849dd7a7eb4bd51d8d0d90f0054caf0a7610dc2b617d045cfd"), looks := false }, kinds := [], alts := [], laidByText := true, laidKinds := [.listed, .data], laidTests := true, laidLooks := .later }
def SignManyCardSaid : Prop := Claim7.holds Tryd.pinned (.plain (OpenSpec.ofChange signManySpec)) signManyCard

/-- THE TIED CARD OF 'sequiturlaw06.SignFinds'. -/
def signFindsCard : Claim7 := { stood := { row := signFindsRow, standIns := [], harness := (true, "667a492e1472e3849dd7a7eb4bd51d8d0d90f0054caf0a7610dc2b617d045cfd"), looks := false }, kinds := [], alts := [], laidByText := true, laidKinds := [.listed, .data], laidTests := true, laidLooks := .later }
def SignFindsCardSaid : Prop := Claim7.holds Tryd.pinned (.plain (OpenSpec.ofChange signFindsSpec)) signFindsCard

/-- THE TIED CARD OF 'sequiturlaw06.SignPuts'. -/
def signPutsCard : Claim7 := { stood := { row := signPutsRow, standIns := [], harness := (true, "667a492e1472e3849dd7a7eb4bd51d8d0d90f0054caf0a7610dc2b617d045cfd"), looks := false }, kinds := [], alts := [], laidByText := true, laidKinds := [.listed, .data], laidTests := true, laidLooks := .later }
def SignPutsCardSaid : Prop := Claim7.holds Tryd.pinned (.plain (OpenSpec.ofChange signPutsSpec)) signPutsCard

/-- THE TIED CARD OF 'sequiturlaw06.SignRights'. -/
def signRightsCard : Claim7 := { stood := { row := signRightsRow, standIns := [], harness := (true, "667a492e1472e3849dd7a7eb4bd51d8d0d90f0054caf0a7610dc2b617d045cfd"), looks := false }, kinds := [], alts := [], laidByText := true, laidKinds := [.listed, .data], laidTests := true, laidLooks := .later }
def SignRightsCardSaid : Prop := Claim7.holds Tryd.pinned (.plain (OpenSpec.ofChange signRightsSpec)) signRightsCard

/-- THE TIED CARD OF 'sequiturlaw06.SignKeeps'. -/
def signKeepsCard : Claim7 := { stood := { row := signKeepsRow, standIns := [], harness := (true, "667a492e1472e3849dd7a7eb4bd51d8d0d90f0054caf0a7610dc2b617d045cfd"), looks := false }, kinds := [], alts := [], laidByText := true, laidKinds := [.listed, .data], laidTests := true, laidLooks := .later }
def SignKeepsCardSaid : Prop := Claim7.holds Tryd.pinned (.plain (OpenSpec.ofChange signKeepsSpec)) signKeepsCard

/-- THE SECOND FORM's CARD OF 'sequiturlaw06.SignMany'. -/
def signManyUptoCard : Claim7 := { stood := { row := signManyUptoRow, standIns := [], harness := (true, "667a492e1472e3849dd7a7eb4bd51d8d0d90f0054caf0a7610dc2b617d045cfd"), looks := false }, kinds := [], alts := [], laidByText := true, laidKinds := [.listed, .data], laidTests := true, laidLooks := .later }
def SignManyUptoCardSaid : Prop := Claim7.holds Tryd.pinned (.plain (OpenSpec.upto signManySpec)) signManyUptoCard

/-- THE SECOND FORM's CARD OF 'sequiturlaw06.SignFinds'. -/
def signFindsUptoCard : Claim7 := { stood := { row := signFindsUptoRow, standIns := [], harness := (true, "667a492e1472e3849dd7a7eb4bd51d8d0d90f0054caf0a7610dc2b617d045cfd"), looks := false }, kinds := [], alts := [], laidByText := true, laidKinds := [.listed, .data], laidTests := true, laidLooks := .later }
def SignFindsUptoCardSaid : Prop := Claim7.holds Tryd.pinned (.plain (OpenSpec.upto signFindsSpec)) signFindsUptoCard

/-- THE SECOND FORM's CARD OF 'sequiturlaw06.SignPuts'. -/
def signPutsUptoCard : Claim7 := { stood := { row := signPutsUptoRow, standIns := [], harness := (true, "667a492e1472e3849dd7a7eb4bd51d8d0d90f0054caf0a7610dc2b617d045cfd"), looks := false }, kinds := [], alts := [], laidByText := true, laidKinds := [.listed, .data], laidTests := true, laidLooks := .later }
def SignPutsUptoCardSaid : Prop := Claim7.holds Tryd.pinned (.plain (OpenSpec.upto signPutsSpec)) signPutsUptoCard

/-- THE SECOND FORM's CARD OF 'sequiturlaw06.SignRights'. -/
def signRightsUptoCard : Claim7 := { stood := { row := signRightsUptoRow, standIns := [], harness := (true, "667a492e1472e3849dd7a7eb4bd51d8d0d90f0054caf0a7610dc2b617d045cfd"), looks := false }, kinds := [], alts := [], laidByText := true, laidKinds := [.listed, .data], laidTests := true, laidLooks := .later }
def SignRightsUptoCardSaid : Prop := Claim7.holds Tryd.pinned (.plain (OpenSpec.upto signRightsSpec)) signRightsUptoCard

/-- THE SECOND FORM's CARD OF 'sequiturlaw06.SignKeeps'. -/
def signKeepsUptoCard : Claim7 := { stood := { row := signKeepsUptoRow, standIns := [], harness := (true, "667a492e1472e3849dd7a7eb4bd51d8d0d90f0054caf0a7610dc2b617d045cfd"), looks := false }, kinds := [], alts := [], laidByText := true, laidKinds := [.listed, .data], laidTests := true, laidLooks := .later }
def SignKeepsUptoCardSaid : Prop := Claim7.holds Tryd.pinned (.plain (OpenSpec.upto signKeepsSpec)) signKeepsUptoCard
end Rows
end Go.Proofs.YtdnlaeefalmgpaaDoor
