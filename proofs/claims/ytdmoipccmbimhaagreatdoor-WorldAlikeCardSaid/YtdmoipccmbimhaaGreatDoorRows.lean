/-
  NARROWER THAN 'FOR EVERY INPUT', by the rows' own cells (each row's printed sentence says how): WorldRights: laid · WorldClaims: loops, laid · WorldAlike: loops, laid · WorldTerms: loops, laid · WorldPuts: loops, laid · WorldMakes: laid · WorldSeqs: loops, laid.
  DERIVED. THE GIVEN ROWS OF THIS SEAT. 7 by the template 'for every input the law returns true; each argument reads behind the call as it read before'; 0 by the template 'total and deterministic' (their statements: YtdmoipccmbimhaaGreatDoorTotals.lean).
  GIVEN WITH THE SEED: the statements are not yours to turn. If you find one false, say at which input.
  Laid BY PROGRAM, IN A SANDBOX (cutbox-rows.mjs): the forced cells as the released guide's own fill.sh prints them over the translation 7fe8e64f374871ae… (all of the seat's roots in one cut). By AI agents, Wed Nov 11 2026. No macro, syntax, notation, axiom, sorry.
-/
import Derived.Test.YtdmoipccmbimhaaGreatDoorChecked
import GoSem.Claim
import GoSem.ClaimJoined
import GoSem.ClaimMapViews
import Derived.JoinedTies
import Derived.KernelRfl
namespace Go.Proofs.YtdmoipccmbimhaaGreatDoor
/- THE CELL 'sum', in the pinned program and in every row, IS THE sha256 OF THE DUMP (.gsa) THAT YtdmoipccmbimhaaGreatDoorProg.lean LOADS. Nothing in Lean hashes anything: it is a label: what it is worth is what the hold of that sum in a sandbox is worth. -/
noncomputable def Tryz.pinned : Pinned := { name := "ytdmoipccmbimhaagreatdoor", sum := "7fe8e64f374871ae90cb1362789de3a0a2b75af8b7718a3147b75fcd2f87b963", checked := Tryz.checked }
namespace Rows
def none {H : Type} : Left H := { results := [], args := [] }

/- WHAT THE LISTED PACKAGE-LEVEL VARIABLES READ AS WHEN THE CALL BEGINS. Each datum BY PROGRAM (the guide's laid-datum.mjs) off the statement by which the dump's own 'gosem.cut.vars' lays the variable. In a bare row this is a premise. The card (YtdmoipccmbimhaaGreatDoorCards.lean) ties it to the program's text. -/
def laid_sequitur_term_needs {H : Type} : DataW H := .agg [.lit (.int .i64 0), .lit (.int .i64 0), .lit (.int .i64 0), .lit (.int .i64 8), .lit (.int .i64 0), .lit (.int .i64 2), .lit (.int .i64 2), .lit (.int .i64 1), .lit (.int .i64 1)]
def laid_unicode_White_Space {H : Type} : DataW H := .ptr (.agg [.slice [.agg [.lit (.int .u16 9), .lit (.int .u16 13), .lit (.int .u16 1)], .agg [.lit (.int .u16 32), .lit (.int .u16 133), .lit (.int .u16 101)], .agg [.lit (.int .u16 160), .lit (.int .u16 5760), .lit (.int .u16 5600)], .agg [.lit (.int .u16 8192), .lit (.int .u16 8202), .lit (.int .u16 1)], .agg [.lit (.int .u16 8232), .lit (.int .u16 8233), .lit (.int .u16 1)], .agg [.lit (.int .u16 8239), .lit (.int .u16 8287), .lit (.int .u16 48)], .agg [.lit (.int .u16 12288), .lit (.int .u16 12288), .lit (.int .u16 1)]] [], .nil, .lit (.int .i64 2)])
def laid_strings_asciiSpace {H : Type} : DataW H := .agg [.lit (.int .u8 0), .lit (.int .u8 0), .lit (.int .u8 0), .lit (.int .u8 0), .lit (.int .u8 0), .lit (.int .u8 0), .lit (.int .u8 0), .lit (.int .u8 0), .lit (.int .u8 0), .lit (.int .u8 1), .lit (.int .u8 1), .lit (.int .u8 1), .lit (.int .u8 1), .lit (.int .u8 1), .lit (.int .u8 0), .lit (.int .u8 0), .lit (.int .u8 0), .lit (.int .u8 0), .lit (.int .u8 0), .lit (.int .u8 0), .lit (.int .u8 0), .lit (.int .u8 0), .lit (.int .u8 0), .lit (.int .u8 0), .lit (.int .u8 0), .lit (.int .u8 0), .lit (.int .u8 0), .lit (.int .u8 0), .lit (.int .u8 0), .lit (.int .u8 0), .lit (.int .u8 0), .lit (.int .u8 0), .lit (.int .u8 1), .lit (.int .u8 0), .lit (.int .u8 0), .lit (.int .u8 0), .lit (.int .u8 0), .lit (.int .u8 0), .lit (.int .u8 0), .lit (.int .u8 0), .lit (.int .u8 0), .lit (.int .u8 0), .lit (.int .u8 0), .lit (.int .u8 0), .lit (.int .u8 0), .lit (.int .u8 0), .lit (.int .u8 0), .lit (.int .u8 0), .lit (.int .u8 0), .lit (.int .u8 0), .lit (.int .u8 0), .lit (.int .u8 0), .lit (.int .u8 0), .lit (.int .u8 0), .lit (.int .u8 0), .lit (.int .u8 0), .lit (.int .u8 0), .lit (.int .u8 0), .lit (.int .u8 0), .lit (.int .u8 0), .lit (.int .u8 0), .lit (.int .u8 0), .lit (.int .u8 0), .lit (.int .u8 0), .lit (.int .u8 0), .lit (.int .u8 0), .lit (.int .u8 0), .lit (.int .u8 0), .lit (.int .u8 0), .lit (.int .u8 0), .lit (.int .u8 0), .lit (.int .u8 0), .lit (.int .u8 0), .lit (.int .u8 0), .lit (.int .u8 0), .lit (.int .u8 0), .lit (.int .u8 0), .lit (.int .u8 0), .lit (.int .u8 0), .lit (.int .u8 0), .lit (.int .u8 0), .lit (.int .u8 0), .lit (.int .u8 0), .lit (.int .u8 0), .lit (.int .u8 0), .lit (.int .u8 0), .lit (.int .u8 0), .lit (.int .u8 0), .lit (.int .u8 0), .lit (.int .u8 0), .lit (.int .u8 0), .lit (.int .u8 0), .lit (.int .u8 0), .lit (.int .u8 0), .lit (.int .u8 0), .lit (.int .u8 0), .lit (.int .u8 0), .lit (.int .u8 0), .lit (.int .u8 0), .lit (.int .u8 0), .lit (.int .u8 0), .lit (.int .u8 0), .lit (.int .u8 0), .lit (.int .u8 0), .lit (.int .u8 0), .lit (.int .u8 0), .lit (.int .u8 0), .lit (.int .u8 0), .lit (.int .u8 0), .lit (.int .u8 0), .lit (.int .u8 0), .lit (.int .u8 0), .lit (.int .u8 0), .lit (.int .u8 0), .lit (.int .u8 0), .lit (.int .u8 0), .lit (.int .u8 0), .lit (.int .u8 0), .lit (.int .u8 0), .lit (.int .u8 0), .lit (.int .u8 0), .lit (.int .u8 0), .lit (.int .u8 0), .lit (.int .u8 0), .lit (.int .u8 0), .lit (.int .u8 0), .lit (.int .u8 0), .lit (.int .u8 0), .lit (.int .u8 0), .lit (.int .u8 0), .lit (.int .u8 0), .lit (.int .u8 0), .lit (.int .u8 0), .lit (.int .u8 0), .lit (.int .u8 0), .lit (.int .u8 0), .lit (.int .u8 0), .lit (.int .u8 0), .lit (.int .u8 0), .lit (.int .u8 0), .lit (.int .u8 0), .lit (.int .u8 0), .lit (.int .u8 0), .lit (.int .u8 0), .lit (.int .u8 0), .lit (.int .u8 0), .lit (.int .u8 0), .lit (.int .u8 0), .lit (.int .u8 0), .lit (.int .u8 0), .lit (.int .u8 0), .lit (.int .u8 0), .lit (.int .u8 0), .lit (.int .u8 0), .lit (.int .u8 0), .lit (.int .u8 0), .lit (.int .u8 0), .lit (.int .u8 0), .lit (.int .u8 0), .lit (.int .u8 0), .lit (.int .u8 0), .lit (.int .u8 0), .lit (.int .u8 0), .lit (.int .u8 0), .lit (.int .u8 0), .lit (.int .u8 0), .lit (.int .u8 0), .lit (.int .u8 0), .lit (.int .u8 0), .lit (.int .u8 0), .lit (.int .u8 0), .lit (.int .u8 0), .lit (.int .u8 0), .lit (.int .u8 0), .lit (.int .u8 0), .lit (.int .u8 0), .lit (.int .u8 0), .lit (.int .u8 0), .lit (.int .u8 0), .lit (.int .u8 0), .lit (.int .u8 0), .lit (.int .u8 0), .lit (.int .u8 0), .lit (.int .u8 0), .lit (.int .u8 0), .lit (.int .u8 0), .lit (.int .u8 0), .lit (.int .u8 0), .lit (.int .u8 0), .lit (.int .u8 0), .lit (.int .u8 0), .lit (.int .u8 0), .lit (.int .u8 0), .lit (.int .u8 0), .lit (.int .u8 0), .lit (.int .u8 0), .lit (.int .u8 0), .lit (.int .u8 0), .lit (.int .u8 0), .lit (.int .u8 0), .lit (.int .u8 0), .lit (.int .u8 0), .lit (.int .u8 0), .lit (.int .u8 0), .lit (.int .u8 0), .lit (.int .u8 0), .lit (.int .u8 0), .lit (.int .u8 0), .lit (.int .u8 0), .lit (.int .u8 0), .lit (.int .u8 0), .lit (.int .u8 0), .lit (.int .u8 0), .lit (.int .u8 0), .lit (.int .u8 0), .lit (.int .u8 0), .lit (.int .u8 0), .lit (.int .u8 0), .lit (.int .u8 0), .lit (.int .u8 0), .lit (.int .u8 0), .lit (.int .u8 0), .lit (.int .u8 0), .lit (.int .u8 0), .lit (.int .u8 0), .lit (.int .u8 0), .lit (.int .u8 0), .lit (.int .u8 0), .lit (.int .u8 0), .lit (.int .u8 0), .lit (.int .u8 0), .lit (.int .u8 0), .lit (.int .u8 0), .lit (.int .u8 0), .lit (.int .u8 0), .lit (.int .u8 0), .lit (.int .u8 0), .lit (.int .u8 0), .lit (.int .u8 0), .lit (.int .u8 0), .lit (.int .u8 0), .lit (.int .u8 0), .lit (.int .u8 0), .lit (.int .u8 0), .lit (.int .u8 0), .lit (.int .u8 0), .lit (.int .u8 0), .lit (.int .u8 0), .lit (.int .u8 0), .lit (.int .u8 0), .lit (.int .u8 0), .lit (.int .u8 0), .lit (.int .u8 0), .lit (.int .u8 0), .lit (.int .u8 0), .lit (.int .u8 0)]

/-- 'sequiturlaw16.WorldRights': WHATEVER THE INPUT: true; the input reads as it did. -/
def worldRightsSpec : ChangeSpec := { name := "worldRights", fn := fun _ => fun
  | [d1, d2] => { results := [.lit (.bool true)], args := [d1, d2] }
  | _ => none }
def worldRightsRow : OpenClaim := { program := "ytdmoipccmbimhaagreatdoor", sum := "7fe8e64f374871ae90cb1362789de3a0a2b75af8b7718a3147b75fcd2f87b963", func := "sequitur/sequiturlaw16.WorldRights", spec := "worldRights", unfollowed := true, recurses := true, named := ["strings.asciiSpace", "unicode.White_Space", "sequitur/term.needs"], apart := false, laid := [("sequitur/term.needs", laid_sequitur_term_needs), ("unicode.White_Space", laid_unicode_White_Space), ("strings.asciiSpace", laid_strings_asciiSpace)] }
def WorldRightsSaid : Prop := worldRightsRow.holds Tryz.pinned (OpenSpec.ofChange worldRightsSpec)

/-- ITS FALSE NEIGHBOUR: 'it returns false'. Refute it at one input. -/
def worldRightsWrong : ChangeSpec := { name := "worldRights", fn := fun _ => fun
  | [d1, d2] => { results := [.lit (.bool false)], args := [d1, d2] }
  | _ => none }
def WorldRightsWrongFalsely : Prop := worldRightsRow.holds Tryz.pinned (OpenSpec.ofChange worldRightsWrong)

/-- 'sequiturlaw16.WorldClaims': WHATEVER THE INPUT: true; the input reads as it did. -/
def worldClaimsSpec : ChangeSpec := { name := "worldClaims", fn := fun _ => fun
  | [d1, d2, d3, d4, d5] => { results := [.lit (.bool true)], args := [d1, d2, d3, d4, d5] }
  | _ => none }
def worldClaimsRow : OpenClaim := { program := "ytdmoipccmbimhaagreatdoor", sum := "7fe8e64f374871ae90cb1362789de3a0a2b75af8b7718a3147b75fcd2f87b963", func := "sequitur/sequiturlaw16.WorldClaims", spec := "worldClaims", unfollowed := true, recurses := true, named := ["strings.asciiSpace", "unicode.White_Space", "sequitur/term.needs"], loops := true, apart := false, laid := [("sequitur/term.needs", laid_sequitur_term_needs), ("unicode.White_Space", laid_unicode_White_Space), ("strings.asciiSpace", laid_strings_asciiSpace)] }
def WorldClaimsSaid : Prop := worldClaimsRow.holds Tryz.pinned (OpenSpec.ofChange worldClaimsSpec)

/-- ITS FALSE NEIGHBOUR: 'it returns false'. Refute it at one input. -/
def worldClaimsWrong : ChangeSpec := { name := "worldClaims", fn := fun _ => fun
  | [d1, d2, d3, d4, d5] => { results := [.lit (.bool false)], args := [d1, d2, d3, d4, d5] }
  | _ => none }
def WorldClaimsWrongFalsely : Prop := worldClaimsRow.holds Tryz.pinned (OpenSpec.ofChange worldClaimsWrong)

/-- 'sequiturlaw16.WorldAlike': WHATEVER THE INPUT: true; the input reads as it did. -/
def worldAlikeSpec : ChangeSpec := { name := "worldAlike", fn := fun _ => fun
  | [d1, d2, d3, d4, d5, d6] => { results := [.lit (.bool true)], args := [d1, d2, d3, d4, d5, d6] }
  | _ => none }
def worldAlikeRow : OpenClaim := { program := "ytdmoipccmbimhaagreatdoor", sum := "7fe8e64f374871ae90cb1362789de3a0a2b75af8b7718a3147b75fcd2f87b963", func := "sequitur/sequiturlaw16.WorldAlike", spec := "worldAlike", unfollowed := true, recurses := true, named := ["strings.asciiSpace", "unicode.White_Space", "sequitur/term.needs"], loops := true, apart := false, laid := [("sequitur/term.needs", laid_sequitur_term_needs), ("unicode.White_Space", laid_unicode_White_Space), ("strings.asciiSpace", laid_strings_asciiSpace)] }
def WorldAlikeSaid : Prop := worldAlikeRow.holds Tryz.pinned (OpenSpec.ofChange worldAlikeSpec)

/-- ITS FALSE NEIGHBOUR: 'it returns false'. Refute it at one input. -/
def worldAlikeWrong : ChangeSpec := { name := "worldAlike", fn := fun _ => fun
  | [d1, d2, d3, d4, d5, d6] => { results := [.lit (.bool false)], args := [d1, d2, d3, d4, d5, d6] }
  | _ => none }
def WorldAlikeWrongFalsely : Prop := worldAlikeRow.holds Tryz.pinned (OpenSpec.ofChange worldAlikeWrong)

/-- 'sequiturlaw16.WorldTerms': WHATEVER THE INPUT: true; the input reads as it did. -/
def worldTermsSpec : ChangeSpec := { name := "worldTerms", fn := fun _ => fun
  | [d1, d2, d3, d4, d5] => { results := [.lit (.bool true)], args := [d1, d2, d3, d4, d5] }
  | _ => none }
def worldTermsRow : OpenClaim := { program := "ytdmoipccmbimhaagreatdoor", sum := "7fe8e64f374871ae90cb1362789de3a0a2b75af8b7718a3147b75fcd2f87b963", func := "sequitur/sequiturlaw16.WorldTerms", spec := "worldTerms", unfollowed := true, recurses := true, named := ["strings.asciiSpace", "unicode.White_Space", "sequitur/term.needs"], loops := true, apart := false, laid := [("sequitur/term.needs", laid_sequitur_term_needs), ("unicode.White_Space", laid_unicode_White_Space), ("strings.asciiSpace", laid_strings_asciiSpace)] }
def WorldTermsSaid : Prop := worldTermsRow.holds Tryz.pinned (OpenSpec.ofChange worldTermsSpec)

/-- ITS FALSE NEIGHBOUR: 'it returns false'. Refute it at one input. -/
def worldTermsWrong : ChangeSpec := { name := "worldTerms", fn := fun _ => fun
  | [d1, d2, d3, d4, d5] => { results := [.lit (.bool false)], args := [d1, d2, d3, d4, d5] }
  | _ => none }
def WorldTermsWrongFalsely : Prop := worldTermsRow.holds Tryz.pinned (OpenSpec.ofChange worldTermsWrong)

/-- 'sequiturlaw16.WorldPuts': WHATEVER THE INPUT: true; the input reads as it did. -/
def worldPutsSpec : ChangeSpec := { name := "worldPuts", fn := fun _ => fun
  | [d1, d2, d3, d4, d5, d6, d7] => { results := [.lit (.bool true)], args := [d1, d2, d3, d4, d5, d6, d7] }
  | _ => none }
def worldPutsRow : OpenClaim := { program := "ytdmoipccmbimhaagreatdoor", sum := "7fe8e64f374871ae90cb1362789de3a0a2b75af8b7718a3147b75fcd2f87b963", func := "sequitur/sequiturlaw16.WorldPuts", spec := "worldPuts", unfollowed := true, recurses := true, named := ["strings.asciiSpace", "unicode.White_Space", "sequitur/term.needs"], loops := true, apart := false, laid := [("sequitur/term.needs", laid_sequitur_term_needs), ("unicode.White_Space", laid_unicode_White_Space), ("strings.asciiSpace", laid_strings_asciiSpace)] }
def WorldPutsSaid : Prop := worldPutsRow.holds Tryz.pinned (OpenSpec.ofChange worldPutsSpec)

/-- ITS FALSE NEIGHBOUR: 'it returns false'. Refute it at one input. -/
def worldPutsWrong : ChangeSpec := { name := "worldPuts", fn := fun _ => fun
  | [d1, d2, d3, d4, d5, d6, d7] => { results := [.lit (.bool false)], args := [d1, d2, d3, d4, d5, d6, d7] }
  | _ => none }
def WorldPutsWrongFalsely : Prop := worldPutsRow.holds Tryz.pinned (OpenSpec.ofChange worldPutsWrong)

/-- 'sequiturlaw16.WorldMakes': WHATEVER THE INPUT: true; the input reads as it did. -/
def worldMakesSpec : ChangeSpec := { name := "worldMakes", fn := fun _ => fun
  | [d1, d2, d3] => { results := [.lit (.bool true)], args := [d1, d2, d3] }
  | _ => none }
def worldMakesRow : OpenClaim := { program := "ytdmoipccmbimhaagreatdoor", sum := "7fe8e64f374871ae90cb1362789de3a0a2b75af8b7718a3147b75fcd2f87b963", func := "sequitur/sequiturlaw16.WorldMakes", spec := "worldMakes", unfollowed := true, recurses := true, named := ["strings.asciiSpace", "unicode.White_Space", "sequitur/term.needs"], apart := false, laid := [("sequitur/term.needs", laid_sequitur_term_needs), ("unicode.White_Space", laid_unicode_White_Space), ("strings.asciiSpace", laid_strings_asciiSpace)] }
def WorldMakesSaid : Prop := worldMakesRow.holds Tryz.pinned (OpenSpec.ofChange worldMakesSpec)

/-- ITS FALSE NEIGHBOUR: 'it returns false'. Refute it at one input. -/
def worldMakesWrong : ChangeSpec := { name := "worldMakes", fn := fun _ => fun
  | [d1, d2, d3] => { results := [.lit (.bool false)], args := [d1, d2, d3] }
  | _ => none }
def WorldMakesWrongFalsely : Prop := worldMakesRow.holds Tryz.pinned (OpenSpec.ofChange worldMakesWrong)

/-- 'sequiturlaw16.WorldSeqs': WHATEVER THE INPUT: true; the input reads as it did. -/
def worldSeqsSpec : ChangeSpec := { name := "worldSeqs", fn := fun _ => fun
  | [d1, d2, d3, d4] => { results := [.lit (.bool true)], args := [d1, d2, d3, d4] }
  | _ => none }
def worldSeqsRow : OpenClaim := { program := "ytdmoipccmbimhaagreatdoor", sum := "7fe8e64f374871ae90cb1362789de3a0a2b75af8b7718a3147b75fcd2f87b963", func := "sequitur/sequiturlaw16.WorldSeqs", spec := "worldSeqs", unfollowed := true, recurses := true, named := ["strings.asciiSpace", "unicode.White_Space", "sequitur/term.needs"], loops := true, apart := false, laid := [("sequitur/term.needs", laid_sequitur_term_needs), ("unicode.White_Space", laid_unicode_White_Space), ("strings.asciiSpace", laid_strings_asciiSpace)] }
def WorldSeqsSaid : Prop := worldSeqsRow.holds Tryz.pinned (OpenSpec.ofChange worldSeqsSpec)

/-- ITS FALSE NEIGHBOUR: 'it returns false'. Refute it at one input. -/
def worldSeqsWrong : ChangeSpec := { name := "worldSeqs", fn := fun _ => fun
  | [d1, d2, d3, d4] => { results := [.lit (.bool false)], args := [d1, d2, d3, d4] }
  | _ => none }
def WorldSeqsWrongFalsely : Prop := worldSeqsRow.holds Tryz.pinned (OpenSpec.ofChange worldSeqsWrong)

/- THE SECOND FORM. 'bulk': how many values and letters a reading holds, each counted each time it is reached (what is shared counts as often as it is met; a slice's spare places count too). A statement '..UptoSaid' is the law's where the arguments, and the package variables that the reading takes, are together of bulk at most 1048576: NARROWER than '..Said'. Prove '..Said' where nothing that the law and all that it calls make is longer than what came in: it says more and counts as full. Else prove '..UptoSaid'. A law counts once. -/
mutual
def uptoBulk {H : Type} : DataW H → Nat
  | .lit (.string bytes) => bytes.length + 1
  | .lit _ => 1
  | .nil => 1
  | .ptr d => uptoBulk d + 1
  | .slice elems spare => uptoBulkAll elems + uptoBulkAll spare + 1
  | .agg parts => uptoBulkAll parts + 1
  | .iface _ d => uptoBulk d + 1
  | .map entries => uptoBulkEntries entries + 1
  | .held _ => 1
def uptoBulkAll {H : Type} : List (DataW H) → Nat
  | [] => 0
  | d :: r => uptoBulk d + uptoBulkAll r
def uptoBulkEntries {H : Type} : List (Lit × DataW H) → Nat
  | [] => 0
  | x :: r => uptoBulkEntry x + uptoBulkEntries r
def uptoBulkEntry {H : Type} : Lit × DataW H → Nat
  | (.string bytes, d) => bytes.length + uptoBulk d + 1
  | (_, d) => uptoBulk d + 1
 end
def uptoSmall : (H : Type) → List (DataW H) → Bool := fun _ ds => decide (uptoBulkAll ds ≤ 1048576)
def OpenSpec.upto (s : _root_.Go.ChangeSpec) : _root_.Go.OpenSpec := { _root_.Go.OpenSpec.ofChange s with cond := some uptoSmall }

/-- 'sequiturlaw16.WorldRights', WHERE WHAT IT READS IS OF BULK AT MOST 1048576: true; the input reads as it did. -/
def worldRightsUptoRow : OpenClaim := { program := "ytdmoipccmbimhaagreatdoor", sum := "7fe8e64f374871ae90cb1362789de3a0a2b75af8b7718a3147b75fcd2f87b963", func := "sequitur/sequiturlaw16.WorldRights", spec := "worldRights", unfollowed := true, recurses := true, named := ["strings.asciiSpace", "unicode.White_Space", "sequitur/term.needs"], apart := false, laid := [("sequitur/term.needs", laid_sequitur_term_needs), ("unicode.White_Space", laid_unicode_White_Space), ("strings.asciiSpace", laid_strings_asciiSpace)], narrowed := true }
def WorldRightsUptoSaid : Prop := worldRightsUptoRow.holds Tryz.pinned (OpenSpec.upto worldRightsSpec)

/-- 'sequiturlaw16.WorldClaims', WHERE WHAT IT READS IS OF BULK AT MOST 1048576: true; the input reads as it did. -/
def worldClaimsUptoRow : OpenClaim := { program := "ytdmoipccmbimhaagreatdoor", sum := "7fe8e64f374871ae90cb1362789de3a0a2b75af8b7718a3147b75fcd2f87b963", func := "sequitur/sequiturlaw16.WorldClaims", spec := "worldClaims", unfollowed := true, recurses := true, named := ["strings.asciiSpace", "unicode.White_Space", "sequitur/term.needs"], loops := true, apart := false, laid := [("sequitur/term.needs", laid_sequitur_term_needs), ("unicode.White_Space", laid_unicode_White_Space), ("strings.asciiSpace", laid_strings_asciiSpace)], narrowed := true }
def WorldClaimsUptoSaid : Prop := worldClaimsUptoRow.holds Tryz.pinned (OpenSpec.upto worldClaimsSpec)

/-- 'sequiturlaw16.WorldAlike', WHERE WHAT IT READS IS OF BULK AT MOST 1048576: true; the input reads as it did. -/
def worldAlikeUptoRow : OpenClaim := { program := "ytdmoipccmbimhaagreatdoor", sum := "7fe8e64f374871ae90cb1362789de3a0a2b75af8b7718a3147b75fcd2f87b963", func := "sequitur/sequiturlaw16.WorldAlike", spec := "worldAlike", unfollowed := true, recurses := true, named := ["strings.asciiSpace", "unicode.White_Space", "sequitur/term.needs"], loops := true, apart := false, laid := [("sequitur/term.needs", laid_sequitur_term_needs), ("unicode.White_Space", laid_unicode_White_Space), ("strings.asciiSpace", laid_strings_asciiSpace)], narrowed := true }
def WorldAlikeUptoSaid : Prop := worldAlikeUptoRow.holds Tryz.pinned (OpenSpec.upto worldAlikeSpec)

/-- 'sequiturlaw16.WorldTerms', WHERE WHAT IT READS IS OF BULK AT MOST 1048576: true; the input reads as it did. -/
def worldTermsUptoRow : OpenClaim := { program := "ytdmoipccmbimhaagreatdoor", sum := "7fe8e64f374871ae90cb1362789de3a0a2b75af8b7718a3147b75fcd2f87b963", func := "sequitur/sequiturlaw16.WorldTerms", spec := "worldTerms", unfollowed := true, recurses := true, named := ["strings.asciiSpace", "unicode.White_Space", "sequitur/term.needs"], loops := true, apart := false, laid := [("sequitur/term.needs", laid_sequitur_term_needs), ("unicode.White_Space", laid_unicode_White_Space), ("strings.asciiSpace", laid_strings_asciiSpace)], narrowed := true }
def WorldTermsUptoSaid : Prop := worldTermsUptoRow.holds Tryz.pinned (OpenSpec.upto worldTermsSpec)

/-- 'sequiturlaw16.WorldPuts', WHERE WHAT IT READS IS OF BULK AT MOST 1048576: true; the input reads as it did. -/
def worldPutsUptoRow : OpenClaim := { program := "ytdmoipccmbimhaagreatdoor", sum := "7fe8e64f374871ae90cb1362789de3a0a2b75af8b7718a3147b75fcd2f87b963", func := "sequitur/sequiturlaw16.WorldPuts", spec := "worldPuts", unfollowed := true, recurses := true, named := ["strings.asciiSpace", "unicode.White_Space", "sequitur/term.needs"], loops := true, apart := false, laid := [("sequitur/term.needs", laid_sequitur_term_needs), ("unicode.White_Space", laid_unicode_White_Space), ("strings.asciiSpace", laid_strings_asciiSpace)], narrowed := true }
def WorldPutsUptoSaid : Prop := worldPutsUptoRow.holds Tryz.pinned (OpenSpec.upto worldPutsSpec)

/-- 'sequiturlaw16.WorldMakes', WHERE WHAT IT READS IS OF BULK AT MOST 1048576: true; the input reads as it did. -/
def worldMakesUptoRow : OpenClaim := { program := "ytdmoipccmbimhaagreatdoor", sum := "7fe8e64f374871ae90cb1362789de3a0a2b75af8b7718a3147b75fcd2f87b963", func := "sequitur/sequiturlaw16.WorldMakes", spec := "worldMakes", unfollowed := true, recurses := true, named := ["strings.asciiSpace", "unicode.White_Space", "sequitur/term.needs"], apart := false, laid := [("sequitur/term.needs", laid_sequitur_term_needs), ("unicode.White_Space", laid_unicode_White_Space), ("strings.asciiSpace", laid_strings_asciiSpace)], narrowed := true }
def WorldMakesUptoSaid : Prop := worldMakesUptoRow.holds Tryz.pinned (OpenSpec.upto worldMakesSpec)

/-- 'sequiturlaw16.WorldSeqs', WHERE WHAT IT READS IS OF BULK AT MOST 1048576: true; the input reads as it did. -/
def worldSeqsUptoRow : OpenClaim := { program := "ytdmoipccmbimhaagreatdoor", sum := "7fe8e64f374871ae90cb1362789de3a0a2b75af8b7718a3147b75fcd2f87b963", func := "sequitur/sequiturlaw16.WorldSeqs", spec := "worldSeqs", unfollowed := true, recurses := true, named := ["strings.asciiSpace", "unicode.White_Space", "sequitur/term.needs"], loops := true, apart := false, laid := [("sequitur/term.needs", laid_sequitur_term_needs), ("unicode.White_Space", laid_unicode_White_Space), ("strings.asciiSpace", laid_strings_asciiSpace)], narrowed := true }
def WorldSeqsUptoSaid : Prop := worldSeqsUptoRow.holds Tryz.pinned (OpenSpec.upto worldSeqsSpec)

end Rows
end Go.Proofs.YtdmoipccmbimhaaGreatDoor
