/-
  The library's table of blanks, as the rows lay it; it stays while memory only grows.
-/
import Derived.Test.YtgajmlkhfjlojaaDoorProg
import Derived.Test.YtgajmlkhfjlojaaDoorWMore
import Derived.Test.YtgajmlkhfjlojaaDoorWWords
import Derived.Test.YtgajmlkhfjlojaaDoorWLast
import Derived.Test.YtgajmlkhfjlojaaDoorSpec
import Derived.WalkKit
import Derived.Deep.LoopGhost
import Derived.Lib.SmallJoins
import Derived.Lib.Fields
import Derived.Shelf.LaysM
namespace Go.Proofs.YtgajmlkhfjlojaaDoor.Aux
set_option linter.unusedVariables false
set_option linter.unusedSimpArgs false
open Go.RowKit Go.Proofs.YtgajmlkhfjlojaaDoorW.PrintWords Go.Proofs.YtgajmlkhfjlojaaDoorW.PrintLast Go.Proofs.YtgajmlkhfjlojaaDoorW.PrintMore Go.Proofs.YtgajmlkhfjlojaaDoor.Spec

/-- The library's table of blanks lies as its initialiser lays it. -/
def LaidW (w : World) : Prop := Lib.TabIs Tryd.prog w "strings.asciiSpace" .u8 Lib.asciiSpaceTab
theorem LaidW.below {w w' : World} (h : LaidW w) (hb : Below w.heap.size w w') : LaidW w' :=
  Joins.tab_stays (g := 0) (by kernel_rfl) h hb (Nat.le_refl _)

end Go.Proofs.YtgajmlkhfjlojaaDoor.Aux
