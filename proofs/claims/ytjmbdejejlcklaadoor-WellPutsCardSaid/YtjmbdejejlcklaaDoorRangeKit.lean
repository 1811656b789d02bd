/-
  The library's laws on ranges over a function, in one place.
-/
import Derived.Test.YtjmbdejejlcklaaDoorProg
import Derived.RangeFuncNested
import Derived.RangeFuncBox
import Derived.RangeFuncBound
import Derived.RangeFuncCalls
import Derived.RangeFuncLeaves
import Derived.Shelf.Abstract
import Derived.Shelf.RegionOpen
import Derived.WalkKit
import Derived.OwnWalkIn
import Derived.TacticsInMore
import Derived.LoopNIn
import Derived.LoopIn
import Derived.LoopN
import Derived.Laws.EntriesVeiled
namespace Go.Proofs.YtjmbdejejlcklaaDoor.Aux
theorem room_none {F : Fence} (hd : F.depth = none) (k : Nat) : F.room k := fun d h => by rw [hd] at h; cases h
end Go.Proofs.YtjmbdejejlcklaaDoor.Aux
