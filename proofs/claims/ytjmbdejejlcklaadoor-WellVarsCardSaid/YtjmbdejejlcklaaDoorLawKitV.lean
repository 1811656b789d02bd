/-
  A world for the witness: the settled one, the table of package term and the library's two tables of blanks holding what their initialisers lay.
-/
import Derived.Test.YtjmbdejejlcklaaDoorRows
import Derived.Test.YtjmbdejejlcklaaDoorTab
import Derived.Deep.DeepHandedRow
import Derived.Deep.DeepWitnessRowRef
import Derived.Lib.LaidTab
set_option maxRecDepth 100000
namespace Go.Eng
open Go Go.Proofs
set_option linter.unusedVariables false
open Go.RowKit

noncomputable def laidWorld (os : Os) : World :=
  let N := (World.settled Tryd.prog os).heap.size
  let w0 := World.holding Tryd.prog os ⟨#[
    .cells (#[9, 13, 1, 32, 133, 101, 160, 5760, 5600, 8192, 8202, 1, 8232, 8233, 1, 8239, 8287, 48, 12288, 12288, 1].map (Value.int .u16)) 141,
    .cells #[.slice (some ⟨N, 0, none⟩) 7 7, .slice none 0 0, .int .i64 2] 138], #[], []⟩
  let put (h : Array Obj) (g : Nat) (cs : Array Value) : Array Obj := h.modify g fun
    | .cells _ t frozen => .cells cs t frozen
    | o => o
  let h1 := put w0.heap 1 (Lib.asciiSpaceTab.map fun z => Value.int .u8 z).toArray
  let h2 := put h1 2 #[.pointer (some ⟨N + 1, 0, none⟩)]
  let h3 := put h2 0 (needsL.map fun z => Value.int .i64 z).toArray
  { w0 with heap := h3 }
theorem laid_met (os : Os) (args : Array Value) :
    laidMet Tryd.prog [("sequitur/term.needs", Go.Proofs.YtjmbdejejlcklaaDoor.Rows.laid_sequitur_term_needs), ("unicode.White_Space", Go.Proofs.YtjmbdejejlcklaaDoor.Rows.laid_unicode_White_Space), ("strings.asciiSpace", Go.Proofs.YtjmbdejejlcklaaDoor.Rows.laid_strings_asciiSpace)] ((laidWorld os).forCall (fun _ _ => 0) ⟨#[], args, []⟩).memory :=
  laidMet_of_run' 8 (by kernel_rfl) (by kernel_rfl)
theorem gNeedsType : (Tryd.prog.globals[0]?).map (·.type) = some 108 := by kernel_rfl
theorem cells9 : Tryd.prog.cellsOf 108 = 9 := by kernel_rfl
theorem cellsInt : Tryd.prog.cellsOf 3 = 1 := by kernel_rfl
theorem needs_data : (Go.Proofs.YtjmbdejejlcklaaDoor.Rows.laid_sequitur_term_needs : DataW Unit) = Lib.tabData .i64 needsL := by kernel_rfl
theorem gAscii : Tryd.prog.globalNamed "strings.asciiSpace" = some 1 := by kernel_rfl
theorem gAsciiType : (Tryd.prog.globals[1]?).map (·.type) = some 125 := by kernel_rfl
theorem cells256 : Tryd.prog.cellsOf 125 = 256 := by kernel_rfl
theorem cellsU8 : Tryd.prog.cellsOf 5 = 1 := by kernel_rfl
theorem ascii_data : (Go.Proofs.YtjmbdejejlcklaaDoor.Rows.laid_strings_asciiSpace : DataW Unit) = Lib.tabData .u8 Lib.asciiSpaceTab := by kernel_rfl
/-- What the rows' list gives. -/
theorem laid_table {W : World} (h : laidMetH Tryd.prog [("sequitur/term.needs", Go.Proofs.YtjmbdejejlcklaaDoor.Rows.laid_sequitur_term_needs), ("unicode.White_Space", Go.Proofs.YtjmbdejejlcklaaDoor.Rows.laid_unicode_White_Space), ("strings.asciiSpace", Go.Proofs.YtjmbdejejlcklaaDoor.Rows.laid_strings_asciiSpace)] W) : LaidA W := by
  obtain ⟨ps, ⟨g1, t1, cs1, fuel1, p1, q1, hg1, ht1, hvar1, hd1, ⟨_, _, _, _, _, _, _, _, _, _, ⟨g', t', cs, fuel, p, q, hg', ht', hvar, hd, _, _⟩, _⟩, _⟩, _⟩ := (show laidMet Tryd.prog [("sequitur/term.needs", Go.Proofs.YtjmbdejejlcklaaDoor.Rows.laid_sequitur_term_needs), ("unicode.White_Space", Go.Proofs.YtjmbdejejlcklaaDoor.Rows.laid_unicode_White_Space), ("strings.asciiSpace", Go.Proofs.YtjmbdejejlcklaaDoor.Rows.laid_strings_asciiSpace)] W from h)
  obtain rfl := Option.some.inj (gNeeds.symm.trans hg1)
  obtain rfl := Option.some.inj (gNeedsType.symm.trans ht1)
  obtain rfl := Option.some.inj (gAscii.symm.trans hg')
  obtain rfl := Option.some.inj (gAsciiType.symm.trans ht')
  refine ⟨?_, ?_⟩
  · unfold NeedsLaid Lib.TabIs
    rw [needs_data] at hd1
    rw [hvar1, ← Lib.cells_of_tab Tryd.underlying108 Tryd.underlying3 cellsInt cells9 hd1]
  · unfold LaidW Lib.TabIs
    rw [ascii_data] at hd
    rw [hvar, ← Lib.cells_of_tab Tryd.underlying125 Tryd.underlying5 cellsU8 cells256 hd]
end Go.Eng
