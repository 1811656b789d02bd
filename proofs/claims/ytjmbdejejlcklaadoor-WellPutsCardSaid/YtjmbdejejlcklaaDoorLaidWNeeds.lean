import Derived.Test.YtjmbdejejlcklaaDoorRows
import Derived.Test.YtjmbdejejlcklaaDoorLaidNeeds
import Derived.Deep.DeepHandedRow
import Derived.Deep.DeepWitnessRowRef
import Derived.Lib.LaidTab
namespace Go.Proofs.YtjmbdejejlcklaaDoor.Aux
set_option linter.unusedVariables false
open Go.RowKit

noncomputable def laidWorld (os : Os) : World :=
  let w0 := World.holding Tryd.prog os ⟨#[], #[], []⟩
  { w0 with heap := w0.heap.modify 0 fun
    | .cells _ t frozen => .cells (needsTab.map fun z => Value.int .i64 z).toArray t frozen
    | o => o }
theorem laid_met (os : Os) (args : Array Value) :
    laidMet Tryd.prog [("sequitur/term.needs", Rows.laid_sequitur_term_needs)] ((laidWorld os).forCall (fun _ _ => 0) ⟨#[], args, []⟩).memory :=
  laidMet_of_run' 8 (by kernel_rfl) (by kernel_rfl)
theorem gNeedsType : (Tryd.prog.globals[0]?).map (·.type) = some 108 := by kernel_rfl
theorem cells9 : Tryd.prog.cellsOf 108 = 9 := by kernel_rfl
theorem cellsInt : Tryd.prog.cellsOf 3 = 1 := by kernel_rfl
theorem needs_data : (Rows.laid_sequitur_term_needs : DataW Unit) = Lib.tabData .i64 needsTab := by kernel_rfl
theorem laid_table {W : World} (h : laidMetH Tryd.prog [("sequitur/term.needs", Rows.laid_sequitur_term_needs)] W) : LaidW W :=
  Lib.tabIs_of_head gNeeds gNeedsType Tryd.underlying108 Tryd.underlying3 cellsInt cells9 (by rw [← needs_data]; exact h)
end Go.Proofs.YtjmbdejejlcklaaDoor.Aux
