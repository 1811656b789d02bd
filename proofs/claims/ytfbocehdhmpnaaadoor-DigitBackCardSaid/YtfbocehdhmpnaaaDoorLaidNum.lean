/-
  What the rows lay for the numbers' texts: the table of powers of ten, and that the two error variables of package strconv hold errors; it stays while memory only grows.
-/
import Derived.Test.YtfbocehdhmpnaaaDoorProg
import Derived.Test.YtfbocehdhmpnaaaDoorWMore
import Derived.Test.YtfbocehdhmpnaaaDoorWWords
import Derived.Test.YtfbocehdhmpnaaaDoorWLast
import Derived.Test.YtfbocehdhmpnaaaDoorSpec
import Derived.WalkKit
import Derived.Deep.LoopGhost
import Derived.Lib.SmallJoins
import Derived.Lib.ItoaNum
import Derived.Shelf.LaysM
namespace Go.Proofs.YtfbocehdhmpnaaaDoor.Aux
set_option linter.unusedVariables false
set_option linter.unusedSimpArgs false
open Go.RowKit Go.Proofs.YtfbocehdhmpnaaaDoorW.PrintWords Go.Proofs.YtfbocehdhmpnaaaDoorW.PrintLast Go.Proofs.YtfbocehdhmpnaaaDoorW.PrintMore Go.Proofs.YtfbocehdhmpnaaaDoor.Spec

def HoldsErr (w : World) (g : Nat) : Prop := ∃ te pe, w.cell? ⟨g, 0, none⟩ = some (.iface te pe)
theorem HoldsErr.below {w w' : World} {g : Nat} (h : HoldsErr w g) (hb : Below w.heap.size w w') : HoldsErr w' g := by
  obtain ⟨te, pe, h⟩ := h
  refine ⟨te, pe, (hb.cell (p := ⟨g, 0, none⟩) ?_).trans h⟩
  rcases Nat.lt_or_ge g w.heap.size with hg | hg
  · exact hg
  · unfold World.cell? at h
    rw [show w.heap[(⟨g, 0, none⟩ : Addr).block]? = none by simpa using hg] at h
    simp at h
structure LaidW (w : World) : Prop where
  tab : Lib.TabIs Tryd.prog w "internal/strconv.uint64pow10" .u64 Lib.pow10Tab
  syn : HoldsErr w 1
  rng : HoldsErr w 2
theorem LaidW.below {w w' : World} (h : LaidW w) (hb : Below w.heap.size w w') : LaidW w' :=
  ⟨Joins.tab_stays (g := 0) (by kernel_rfl) h.tab hb (Nat.le_refl _), h.syn.below hb, h.rng.below hb⟩

end Go.Proofs.YtfbocehdhmpnaaaDoor.Aux
