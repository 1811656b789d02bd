/-
  NARROWER THAN 'FOR EVERY INPUT', by the rows' own cells (each row's printed sentence says how): WellTerms: loops, laid · WellPuts: loops, laid · WellClaims: loops, laid · WellDeep: laid · WellMore: loops, laid · WellVars: laid.
  DERIVED. THE GIVEN ROWS OF THIS SEAT. 6 by the template 'for every input the law returns true; each argument reads behind the call as it read before'; 0 by the template 'total and deterministic' (their statements: YtjmbdejejlcklaaDoorTotals.lean).
  GIVEN WITH THE SEED: the statements are not yours to turn. If you find one false, say at which input.
  Laid BY PROGRAM, IN A SANDBOX (cutbox-rows.mjs): the forced cells as the released guide's own fill.sh prints them over the translation b060af8467ae2b7f… (all of the seat's roots in one cut). By AI agents, Wed Nov 11 2026. No macro, syntax, notation, axiom, sorry.
-/
import Derived.Test.YtjmbdejejlcklaaDoorChecked
import GoSem.Claim
import GoSem.ClaimJoined
import GoSem.ClaimMapViews
import Derived.JoinedTies
import Derived.KernelRfl
namespace Go.Proofs.YtjmbdejejlcklaaDoor
/- THE CELL 'sum', in the pinned program and in every row, IS THE sha256 OF THE DUMP (.gsa) THAT YtjmbdejejlcklaaDoorProg.lean LOADS. Nothing in Lean hashes anything: it is a label: what it is worth is what the hold of that sum in a sandbox is worth. -/
noncomputable def Tryd.pinned : Pinned := { name := "ytjmbdejejlcklaadoor", sum := "b060af8467ae2b7fb05e76ee7fbab44e3cc05992c391c51b2409081f03ec7a72", checked := Tryd.checked }
namespace Rows
def none {H : Type} : Left H := { results := [], args := [] }

/- WHAT THE LISTED PACKAGE-LEVEL VARIABLES READ AS WHEN THE CALL BEGINS. Each datum BY PROGRAM (the guide's laid-datum.mjs) off the statement by which the dump's own 'gosem.cut.vars' lays the variable. In a bare row this is a premise. The card (YtjmbdejejlcklaaDoorCards.lean) ties it to the program's text. -/
def laid_sequitur_term_needs {H : Type} : DataW H := .agg [.lit (.int .i64 0), .lit (.int .i64 0), .lit (.int .i64 0), .lit (.int .i64 8), .lit (.int .i64 0), .lit (.int .i64 2), .lit (.int .i64 2), .lit (.int .i64 1), .lit (.int .i64 1)]
def laid_unicode_White_Space {H : Type} : DataW H := .ptr (.agg [.slice [.agg [.lit (.int .u16 9), .lit (.int .u16 13), .lit (.int .u16 1)], .agg [.lit (.int .u16 32), .lit (.int .u16 133), .lit (.int .u16 101)], .agg [.lit (.int .u16 160), .lit (.int .u16 5760), .lit (.int .u16 5600)], .agg [.lit (.int .u16 8192), .lit (.int .u16 8202), .lit (.int .u16 1)], .agg [.lit (.int .u16 8232), .lit (.int .u16 8233), .lit (.int .u16 1)], .agg [.lit (.int .u16 8239), .lit (.int .u16 8287), .lit (.int .u16 48)], .agg [.lit (.int .u16 12288), .lit (.int .u16 12288), .lit (.int .u16 1)]] [], .nil, .lit (.int .i64 2)])
def laid_strings_asciiSpace {H : Type} : DataW H := .agg [.lit (.int .u8 0), .lit (.int .u8 0), .lit (.int .u8 0), .lit (.int .u8 0), .lit (.int .u8 0), .lit (.int .u8 0), .lit (.int .u8 0), .lit (.int .u8 0), .lit (.int .u8 0), .lit (.int .u8 1), .lit (.int .u8 1), .lit (.int .u8 1), .lit (.int .u8 1), .lit (.int .u8 1), .lit (.int .u8 0), .lit (.int .u8 0), .lit (.int .u8 0), .lit (.int .u8 0), .lit (.int .u8 0), .lit (.int .u8 0), .lit (.int .u8 0), .lit (.int .u8 0), .lit (.int .u8 0), .lit (.int .u8 0), .lit (.int .u8 0), .lit (.int .u8 0), .lit (.int .u8 0), .lit (.int .u8 0), .lit (.int .u8 0), .lit (.int .u8 0), .lit (.int .u8 0), .lit (.int .u8 0), .lit (.int .u8 1), .lit (.int .u8 0), .lit (.int .u8 0), .lit (.int .u8 0), .lit (.int .u8 0), .lit (.int .u8 0), .lit (.int .u8 0), .lit (.int .u8 0), .lit (.int .u8 0), .lit (.int .u8 0), .lit (.int .u8 0), .lit (.int .u8 0), .lit (.int .u8 0), .lit (.int .u8 0), .lit (.int .u8 0), .lit (.int .u8 0), .lit (.int .u8 0), .lit (.int .u8 0), .lit (.int .u8 0), .lit (.int .u8 0), .lit (.int .u8 0), .lit (.int .u8 0), .lit (.int .u8 0), .lit (.int .u8 0), .lit (.int .u8 0), .lit (.int .u8 0), .lit (.int .u8 0), .lit (.int .u8 0), .lit (.int .u8 0), .lit (.int .u8 0), .lit (.int .u8 0), .lit (.int .u8 0), .lit (.int .u8 0), .lit (.int .u8 0), .lit (.int .u8 0), .lit (.int .u8 0), .lit (.int .u8 0), .lit (.int .u8 0), .lit (.int .u8 0), .lit (.int .u8 0), .lit (.int .u8 0), .lit (.int .u8 0), .lit (.int .u8 0), .lit (.int .u8 0), .lit (.int .u8 0), .lit (.int .u8 0), .lit (.int .u8 0), .lit (.int .u8 0), .lit (.int .u8 0), .lit (.int .u8 0), .lit (.int .u8 0), .lit (.int .u8 0), .lit (.int .u8 0), .lit (.int .u8 0), .lit (.int .u8 0), .lit (.int .u8 0), .lit (.int .u8 0), .lit (.int .u8 0), .lit (.int .u8 0), .lit (.int .u8 0), .lit (.int .u8 0), .lit (.int .u8 0), .lit (.int .u8 0), .lit (.int .u8 0), .lit (.int .u8 0), .lit (.int .u8 0), .lit (.int .u8 0), .lit (.int .u8 0), .lit (.int .u8 0), .lit (.int .u8 0), .lit (.int .u8 0), .lit (.int .u8 0), .lit (.int .u8 0), .lit (.int .u8 0), .lit (.int .u8 0), .lit (.int .u8 0), .lit (.int .u8 0), .lit (.int .u8 0), .lit (.int .u8 0), .lit (.int .u8 0), .lit (.int .u8 0), .lit (.int .u8 0), .lit (.int .u8 0), .lit (.int .u8 0), .lit (.int .u8 0), .lit (.int .u8 0), .lit (.int .u8 0), .lit (.int .u8 0), .lit (.int .u8 0), .lit (.int .u8 0), .lit (.int .u8 0), .lit (.int .u8 0), .lit (.int .u8 0), .lit (.int .u8 0), .lit (.int .u8 0), .lit (.int .u8 0), .lit (.int .u8 0), .lit (.int .u8 0), .lit (.int .u8 0), .lit (.int .u8 0), .lit (.int .u8 0), .lit (.int .u8 0), .lit (.int .u8 0), .lit (.int .u8 0), .lit (.int .u8 0), .lit (.int .u8 0), .lit (.int .u8 0), .lit (.int .u8 0), .lit (.int .u8 0), .lit (.int .u8 0), .lit (.int .u8 0), .lit (.int .u8 0), .lit (.int .u8 0), .lit (.int .u8 0), .lit (.int .u8 0), .lit (.int .u8 0), .lit (.int .u8 0), .lit (.int .u8 0), .lit (.int .u8 0), .lit (.int .u8 0), .lit (.int .u8 0), .lit (.int .u8 0), .lit (.int .u8 0), .lit (.int .u8 0), .lit (.int .u8 0), .lit (.int .u8 0), .lit (.int .u8 0), .lit (.int .u8 0), .lit (.int .u8 0), .lit (.int .u8 0), .lit (.int .u8 0), .lit (.int .u8 0), .lit (.int .u8 0), .lit (.int .u8 0), .lit (.int .u8 0), .lit (.int .u8 0), .lit (.int .u8 0), .lit (.int .u8 0), .lit (.int .u8 0), .lit (.int .u8 0), .lit (.int .u8 0), .lit (.int .u8 0), .lit (.int .u8 0), .lit (.int .u8 0), .lit (.int .u8 0), .lit (.int .u8 0), .lit (.int .u8 0), .lit (.int .u8 0), .lit (.int .u8 0), .lit (.int .u8 0), .lit (.int .u8 0), .lit (.int .u8 0), .lit (.int .u8 0), .lit (.int .u8 0), .lit (.int .u8 0), .lit (.int .u8 0), .lit (.int .u8 0), .lit (.int .u8 0), .lit (.int .u8 0), .lit (.int .u8 0), .lit (.int .u8 0), .lit (.int .u8 0), .lit (.int .u8 0), .lit (.int .u8 0), .lit (.int .u8 0), .lit (.int .u8 0), .lit (.int .u8 0), .lit (.int .u8 0), .lit (.int .u8 0), .lit (.int .u8 0), .lit (.int .u8 0), .lit (.int .u8 0), .lit (.int .u8 0), .lit (.int .u8 0), .lit (.int .u8 0), .lit (.int .u8 0), .lit (.int .u8 0), .lit (.int .u8 0), .lit (.int .u8 0), .lit (.int .u8 0), .lit (.int .u8 0), .lit (.int .u8 0), .lit (.int .u8 0), .lit (.int .u8 0), .lit (.int .u8 0), .lit (.int .u8 0), .lit (.int .u8 0), .lit (.int .u8 0), .lit (.int .u8 0), .lit (.int .u8 0), .lit (.int .u8 0), .lit (.int .u8 0), .lit (.int .u8 0), .lit (.int .u8 0), .lit (.int .u8 0), .lit (.int .u8 0), .lit (.int .u8 0), .lit (.int .u8 0), .lit (.int .u8 0), .lit (.int .u8 0), .lit (.int .u8 0), .lit (.int .u8 0), .lit (.int .u8 0), .lit (.int .u8 0), .lit (.int .u8 0), .lit (.int .u8 0), .lit (.int .u8 0), .lit (.int .u8 0), .lit (.int .u8 0), .lit (.int .u8 0), .lit (.int .u8 0), .lit (.int .u8 0), .lit (.int .u8 0), .lit (.int .u8 0), .lit (.int .u8 0), .lit (.int .u8 0), .lit (.int .u8 0), .lit (.int .u8 0), .lit (.int .u8 0), .lit (.int .u8 0), .lit (.int .u8 0), .lit (.int .u8 0), .lit (.int .u8 0), .lit (.int .u8 0)]

/-- 'sequiturlaw13.WellTerms': WHATEVER THE INPUT: true; the input reads as it did. -/
def wellTermsSpec : ChangeSpec := { name := "wellTerms", fn := fun _ => fun
  | [d1, d2, d3, d4] => { results := [.lit (.bool true)], args := [d1, d2, d3, d4] }
  | _ => none }
def wellTermsRow : OpenClaim := { program := "ytjmbdejejlcklaadoor", sum := "b060af8467ae2b7fb05e76ee7fbab44e3cc05992c391c51b2409081f03ec7a72", func := "sequitur/sequiturlaw13.WellTerms", spec := "wellTerms", unfollowed := true, recurses := true, named := ["sequitur/term.needs"], loops := true, apart := false, laid := [("sequitur/term.needs", laid_sequitur_term_needs)] }
def WellTermsSaid : Prop := wellTermsRow.holds Tryd.pinned (OpenSpec.ofChange wellTermsSpec)

/-- ITS FALSE NEIGHBOUR: 'it returns false'. Refute it at one input. -/
def wellTermsWrong : ChangeSpec := { name := "wellTerms", fn := fun _ => fun
  | [d1, d2, d3, d4] => { results := [.lit (.bool false)], args := [d1, d2, d3, d4] }
  | _ => none }
def WellTermsWrongFalsely : Prop := wellTermsRow.holds Tryd.pinned (OpenSpec.ofChange wellTermsWrong)

/-- 'sequiturlaw13.WellPuts': WHATEVER THE INPUT: true; the input reads as it did. -/
def wellPutsSpec : ChangeSpec := { name := "wellPuts", fn := fun _ => fun
  | [d1, d2, d3, d4] => { results := [.lit (.bool true)], args := [d1, d2, d3, d4] }
  | _ => none }
def wellPutsRow : OpenClaim := { program := "ytjmbdejejlcklaadoor", sum := "b060af8467ae2b7fb05e76ee7fbab44e3cc05992c391c51b2409081f03ec7a72", func := "sequitur/sequiturlaw13.WellPuts", spec := "wellPuts", unfollowed := true, recurses := true, named := ["sequitur/term.needs"], loops := true, apart := false, laid := [("sequitur/term.needs", laid_sequitur_term_needs)] }
def WellPutsSaid : Prop := wellPutsRow.holds Tryd.pinned (OpenSpec.ofChange wellPutsSpec)

/-- ITS FALSE NEIGHBOUR: 'it returns false'. Refute it at one input. -/
def wellPutsWrong : ChangeSpec := { name := "wellPuts", fn := fun _ => fun
  | [d1, d2, d3, d4] => { results := [.lit (.bool false)], args := [d1, d2, d3, d4] }
  | _ => none }
def WellPutsWrongFalsely : Prop := wellPutsRow.holds Tryd.pinned (OpenSpec.ofChange wellPutsWrong)

/-- 'sequiturlaw13.WellClaims': WHATEVER THE INPUT: true; the input reads as it did. -/
def wellClaimsSpec : ChangeSpec := { name := "wellClaims", fn := fun _ => fun
  | [d1, d2, d3] => { results := [.lit (.bool true)], args := [d1, d2, d3] }
  | _ => none }
def wellClaimsRow : OpenClaim := { program := "ytjmbdejejlcklaadoor", sum := "b060af8467ae2b7fb05e76ee7fbab44e3cc05992c391c51b2409081f03ec7a72", func := "sequitur/sequiturlaw13.WellClaims", spec := "wellClaims", unfollowed := true, recurses := true, named := ["sequitur/term.needs"], loops := true, apart := false, laid := [("sequitur/term.needs", laid_sequitur_term_needs)] }
def WellClaimsSaid : Prop := wellClaimsRow.holds Tryd.pinned (OpenSpec.ofChange wellClaimsSpec)

/-- ITS FALSE NEIGHBOUR: 'it returns false'. Refute it at one input. -/
def wellClaimsWrong : ChangeSpec := { name := "wellClaims", fn := fun _ => fun
  | [d1, d2, d3] => { results := [.lit (.bool false)], args := [d1, d2, d3] }
  | _ => none }
def WellClaimsWrongFalsely : Prop := wellClaimsRow.holds Tryd.pinned (OpenSpec.ofChange wellClaimsWrong)

/-- 'sequiturlaw13.WellDeep': WHATEVER THE INPUT: true; the input reads as it did. -/
def wellDeepSpec : ChangeSpec := { name := "wellDeep", fn := fun _ => fun
  | [d1, d2] => { results := [.lit (.bool true)], args := [d1, d2] }
  | _ => none }
def wellDeepRow : OpenClaim := { program := "ytjmbdejejlcklaadoor", sum := "b060af8467ae2b7fb05e76ee7fbab44e3cc05992c391c51b2409081f03ec7a72", func := "sequitur/sequiturlaw13.WellDeep", spec := "wellDeep", unfollowed := true, recurses := true, named := ["sequitur/term.needs"], apart := false, laid := [("sequitur/term.needs", laid_sequitur_term_needs)] }
def WellDeepSaid : Prop := wellDeepRow.holds Tryd.pinned (OpenSpec.ofChange wellDeepSpec)

/-- ITS FALSE NEIGHBOUR: 'it returns false'. Refute it at one input. -/
def wellDeepWrong : ChangeSpec := { name := "wellDeep", fn := fun _ => fun
  | [d1, d2] => { results := [.lit (.bool false)], args := [d1, d2] }
  | _ => none }
def WellDeepWrongFalsely : Prop := wellDeepRow.holds Tryd.pinned (OpenSpec.ofChange wellDeepWrong)

/-- 'sequiturlaw13.WellMore': WHATEVER THE INPUT: true; the input reads as it did. -/
def wellMoreSpec : ChangeSpec := { name := "wellMore", fn := fun _ => fun
  | [d1, d2, d3, d4] => { results := [.lit (.bool true)], args := [d1, d2, d3, d4] }
  | _ => none }
def wellMoreRow : OpenClaim := { program := "ytjmbdejejlcklaadoor", sum := "b060af8467ae2b7fb05e76ee7fbab44e3cc05992c391c51b2409081f03ec7a72", func := "sequitur/sequiturlaw13.WellMore", spec := "wellMore", unfollowed := true, recurses := true, named := ["sequitur/term.needs"], loops := true, apart := false, laid := [("sequitur/term.needs", laid_sequitur_term_needs)] }
def WellMoreSaid : Prop := wellMoreRow.holds Tryd.pinned (OpenSpec.ofChange wellMoreSpec)

/-- ITS FALSE NEIGHBOUR: 'it returns false'. Refute it at one input. -/
def wellMoreWrong : ChangeSpec := { name := "wellMore", fn := fun _ => fun
  | [d1, d2, d3, d4] => { results := [.lit (.bool false)], args := [d1, d2, d3, d4] }
  | _ => none }
def WellMoreWrongFalsely : Prop := wellMoreRow.holds Tryd.pinned (OpenSpec.ofChange wellMoreWrong)

/-- 'sequiturlaw13.WellVars': WHATEVER THE INPUT: true; the input reads as it did. -/
def wellVarsSpec : ChangeSpec := { name := "wellVars", fn := fun _ => fun
  | [d1, d2] => { results := [.lit (.bool true)], args := [d1, d2] }
  | _ => none }
def wellVarsRow : OpenClaim := { program := "ytjmbdejejlcklaadoor", sum := "b060af8467ae2b7fb05e76ee7fbab44e3cc05992c391c51b2409081f03ec7a72", func := "sequitur/sequiturlaw13.WellVars", spec := "wellVars", unfollowed := true, recurses := true, named := ["strings.asciiSpace", "unicode.White_Space", "sequitur/term.needs"], apart := false, laid := [("sequitur/term.needs", laid_sequitur_term_needs), ("unicode.White_Space", laid_unicode_White_Space), ("strings.asciiSpace", laid_strings_asciiSpace)] }
def WellVarsSaid : Prop := wellVarsRow.holds Tryd.pinned (OpenSpec.ofChange wellVarsSpec)

/-- ITS FALSE NEIGHBOUR: 'it returns false'. Refute it at one input. -/
def wellVarsWrong : ChangeSpec := { name := "wellVars", fn := fun _ => fun
  | [d1, d2] => { results := [.lit (.bool false)], args := [d1, d2] }
  | _ => none }
def WellVarsWrongFalsely : Prop := wellVarsRow.holds Tryd.pinned (OpenSpec.ofChange wellVarsWrong)

/- THE SECOND FORM. 'bulk': how many values and letters a reading holds, each counted each time it is reached (what is shared counts as often as it is met; a slice's spare places count too). A statement '..UptoSaid' is the law's where the arguments, and the package variables that the reading takes, are together of bulk at most 1048576: NARROWER than '..Said'. Prove '..Said' where nothing that the law and all that it calls make is longer than what came in: it says more and counts as full. Else prove '..UptoSaid'. A law counts once. -/
mutual
def uptoBulk {H : Type} : DataW H → Nat
  | .lit (.string bytes) => bytes.length + 1
  | .lit _ => 1
  | .nil => 1
  | .ptr d => uptoBulk d + 1
  | .slice elems spare => uptoBulkAll elems + uptoBulkAll spare + 1
  | .agg parts => uptoBulkAll parts + 1
  | .iface _ d => uptoBulk d + 1
  | .map entries => uptoBulkEntries entries + 1
  | .held _ => 1
def uptoBulkAll {H : Type} : List (DataW H) → Nat
  | [] => 0
  | d :: r => uptoBulk d + uptoBulkAll r
def uptoBulkEntries {H : Type} : List (Lit × DataW H) → Nat
  | [] => 0
  | x :: r => uptoBulkEntry x + uptoBulkEntries r
def uptoBulkEntry {H : Type} : Lit × DataW H → Nat
  | (.string bytes, d) => bytes.length + uptoBulk d + 1
  | (_, d) => uptoBulk d + 1
 end
def uptoSmall : (H : Type) → List (DataW H) → Bool := fun _ ds => decide (uptoBulkAll ds ≤ 1048576)
def OpenSpec.upto (s : _root_.Go.ChangeSpec) : _root_.Go.OpenSpec := { _root_.Go.OpenSpec.ofChange s with cond := some uptoSmall }

/-- 'sequiturlaw13.WellTerms', WHERE WHAT IT READS IS OF BULK AT MOST 1048576: true; the input reads as it did. -/
def wellTermsUptoRow : OpenClaim := { program := "ytjmbdejejlcklaadoor", sum := "b060af8467ae2b7fb05e76ee7fbab44e3cc05992c391c51b2409081f03ec7a72", func := "sequitur/sequiturlaw13.WellTerms", spec := "wellTerms", unfollowed := true, recurses := true, named := ["sequitur/term.needs"], loops := true, apart := false, laid := [("sequitur/term.needs", laid_sequitur_term_needs)], narrowed := true }
def WellTermsUptoSaid : Prop := wellTermsUptoRow.holds Tryd.pinned (OpenSpec.upto wellTermsSpec)

/-- 'sequiturlaw13.WellPuts', WHERE WHAT IT READS IS OF BULK AT MOST 1048576: true; the input reads as it did. -/
def wellPutsUptoRow : OpenClaim := { program := "ytjmbdejejlcklaadoor", sum := "b060af8467ae2b7fb05e76ee7fbab44e3cc05992c391c51b2409081f03ec7a72", func := "sequitur/sequiturlaw13.WellPuts", spec := "wellPuts", unfollowed := true, recurses := true, named := ["sequitur/term.needs"], loops := true, apart := false, laid := [("sequitur/term.needs", laid_sequitur_term_needs)], narrowed := true }
def WellPutsUptoSaid : Prop := wellPutsUptoRow.holds Tryd.pinned (OpenSpec.upto wellPutsSpec)

/-- 'sequiturlaw13.WellClaims', WHERE WHAT IT READS IS OF BULK AT MOST 1048576: true; the input reads as it did. -/
def wellClaimsUptoRow : OpenClaim := { program := "ytjmbdejejlcklaadoor", sum := "b060af8467ae2b7fb05e76ee7fbab44e3cc05992c391c51b2409081f03ec7a72", func := "sequitur/sequiturlaw13.WellClaims", spec := "wellClaims", unfollowed := true, recurses := true, named := ["sequitur/term.needs"], loops := true, apart := false, laid := [("sequitur/term.needs", laid_sequitur_term_needs)], narrowed := true }
def WellClaimsUptoSaid : Prop := wellClaimsUptoRow.holds Tryd.pinned (OpenSpec.upto wellClaimsSpec)

/-- 'sequiturlaw13.WellDeep', WHERE WHAT IT READS IS OF BULK AT MOST 1048576: true; the input reads as it did. -/
def wellDeepUptoRow : OpenClaim := { program := "ytjmbdejejlcklaadoor", sum := "b060af8467ae2b7fb05e76ee7fbab44e3cc05992c391c51b2409081f03ec7a72", func := "sequitur/sequiturlaw13.WellDeep", spec := "wellDeep", unfollowed := true, recurses := true, named := ["sequitur/term.needs"], apart := false, laid := [("sequitur/term.needs", laid_sequitur_term_needs)], narrowed := true }
def WellDeepUptoSaid : Prop := wellDeepUptoRow.holds Tryd.pinned (OpenSpec.upto wellDeepSpec)

/-- 'sequiturlaw13.WellMore', WHERE WHAT IT READS IS OF BULK AT MOST 1048576: true; the input reads as it did. -/
def wellMoreUptoRow : OpenClaim := { program := "ytjmbdejejlcklaadoor", sum := "b060af8467ae2b7fb05e76ee7fbab44e3cc05992c391c51b2409081f03ec7a72", func := "sequitur/sequiturlaw13.WellMore", spec := "wellMore", unfollowed := true, recurses := true, named := ["sequitur/term.needs"], loops := true, apart := false, laid := [("sequitur/term.needs", laid_sequitur_term_needs)], narrowed := true }
def WellMoreUptoSaid : Prop := wellMoreUptoRow.holds Tryd.pinned (OpenSpec.upto wellMoreSpec)

/-- 'sequiturlaw13.WellVars', WHERE WHAT IT READS IS OF BULK AT MOST 1048576: true; the input reads as it did. -/
def wellVarsUptoRow : OpenClaim := { program := "ytjmbdejejlcklaadoor", sum := "b060af8467ae2b7fb05e76ee7fbab44e3cc05992c391c51b2409081f03ec7a72", func := "sequitur/sequiturlaw13.WellVars", spec := "wellVars", unfollowed := true, recurses := true, named := ["strings.asciiSpace", "unicode.White_Space", "sequitur/term.needs"], apart := false, laid := [("sequitur/term.needs", laid_sequitur_term_needs), ("unicode.White_Space", laid_unicode_White_Space), ("strings.asciiSpace", laid_strings_asciiSpace)], narrowed := true }
def WellVarsUptoSaid : Prop := wellVarsUptoRow.holds Tryd.pinned (OpenSpec.upto wellVarsSpec)

end Rows
end Go.Proofs.YtjmbdejejlcklaaDoor
