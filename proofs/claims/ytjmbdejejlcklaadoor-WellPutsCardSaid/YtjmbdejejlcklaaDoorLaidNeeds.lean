/-
  The table of package term (how many parts each kind of term has), as the rows lay it; it stays while memory only grows.
-/
import Derived.Test.YtjmbdejejlcklaaDoorProg
import Derived.Test.YtjmbdejejlcklaaDoorWMore
import Derived.Test.YtjmbdejejlcklaaDoorWWords
import Derived.Test.YtjmbdejejlcklaaDoorWLast
import Derived.Test.YtjmbdejejlcklaaDoorSpec
import Derived.WalkKit
import Derived.Lib.LaidTab
import Derived.Lib.SmallJoins
namespace Go.Proofs.YtjmbdejejlcklaaDoor.Aux
set_option linter.unusedVariables false
set_option linter.unusedSimpArgs false
open Go.RowKit Go.Proofs.YtjmbdejejlcklaaDoorW.PrintWords Go.Proofs.YtjmbdejejlcklaaDoorW.PrintLast Go.Proofs.YtjmbdejejlcklaaDoorW.PrintMore Go.Proofs.YtjmbdejejlcklaaDoor.Spec

def needsTab : List Int := [0, 0, 0, 8, 0, 2, 2, 1, 1]
/-- The table of package term lies as its initialiser lays it. -/
def NeedsLaid (w : World) : Prop := Lib.TabIs Tryd.prog w "sequitur/term.needs" .i64 needsTab
theorem gNeeds : Tryd.prog.globalNamed "sequitur/term.needs" = some 0 := by kernel_rfl
theorem NeedsLaid.below {w w' : World} (h : NeedsLaid w) (hb : Below w.heap.size w w') : NeedsLaid w' :=
  Joins.tab_stays (g := 0) gNeeds h hb (Nat.le_refl _)
theorem NeedsLaid.cell {w : World} (h : NeedsLaid w) (i : Nat) (hi : i < 9) : w.cell? ⟨0, i, none⟩ = some (.int .i64 (needsTab.getD i 0)) := Lib.TabIs.cell h gNeeds i hi
def LaidW (w : World) : Prop := NeedsLaid w
theorem LaidW.below {w w' : World} (h : LaidW w) (hb : Below w.heap.size w w') : LaidW w' := NeedsLaid.below h hb
theorem LaidW.needs {w : World} (h : LaidW w) : NeedsLaid w := h
end Go.Proofs.YtjmbdejejlcklaaDoor.Aux
