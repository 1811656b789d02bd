/-
  The library's table of blanks, as the rows lay it; it stays while memory only grows.
-/
import Derived.Test.YtdnlaeefalmgpaaDoorProg
import Derived.Test.YtdnlaeefalmgpaaDoorWMore
import Derived.Test.YtdnlaeefalmgpaaDoorWWords
import Derived.Test.YtdnlaeefalmgpaaDoorWLast
import Derived.Test.YtdnlaeefalmgpaaDoorSpec
import Derived.WalkKit
import Derived.Deep.LoopGhost
import Derived.Lib.SmallJoins
import Derived.Lib.Fields
import Derived.Shelf.LaysM
namespace Go.Proofs.YtdnlaeefalmgpaaDoor.Aux
set_option linter.unusedVariables false
set_option linter.unusedSimpArgs false
open Go.RowKit Go.Proofs.YtdnlaeefalmgpaaDoorW.PrintWords Go.Proofs.YtdnlaeefalmgpaaDoorW.PrintLast Go.Proofs.YtdnlaeefalmgpaaDoorW.PrintMore Go.Proofs.YtdnlaeefalmgpaaDoor.Spec

/-- The library's table of blanks lies as its initialiser lays it. -/
def LaidW (w : World) : Prop := Lib.TabIs Tryd.prog w "strings.asciiSpace" .u8 Lib.asciiSpaceTab
theorem LaidW.below {w w' : World} (h : LaidW w) (hb : Below w.heap.size w w') : LaidW w' :=
  Joins.tab_stays (g := 0) (by kernel_rfl) h hb (Nat.le_refl _)

end Go.Proofs.YtdnlaeefalmgpaaDoor.Aux
