-- Written by this session's own program over the kit's printer: externals and laid facts are by hand. Not trusted: Lean checks it.
import Derived.Test.YtfbocehdhmpnaaaDoorProg
import Derived.Below
import Derived.Deep.Draws
import Derived.Deep.AppendLies
import Derived.Maps.AppendAt
import Derived.OwnWalk
import Derived.Laws.BytesArg
import Derived.Laws.MakeOwn
import Derived.Laws.OwnMore
import Derived.Deep.OwnRows
import Derived.Tactics
import Derived.Lib.ConvBytes
import Derived.Laws.Slices
import Derived.WalkKit
import Derived.KernelRfl
import Derived.RowKit3
import Derived.Deep.LoopGhost
import Derived.Deep.QuietTactic
import Derived.BigQuiet
import Derived.WideLaws
import Derived.Deep.DeepCutAuto
import Derived.Deep.CutBlock
import Derived.Deep.RegionHeld3
import Derived.Laws.Rows
import Derived.Lib.AppendStr
import Derived.ArgAppend
import Derived.Laws.IdiomCopy
import Derived.OrdersHeld
import Derived.Laws.BitsLemmas
import Derived.RowKit
import Derived.WalkMore
import Derived.Lib.Strings
import Derived.Laws.NewBlocks
import Derived.RowKit
import Derived.Test.YtfbocehdhmpnaaaDoorLaidNum
import Derived.Test.YtfbocehdhmpnaaaDoorMake
import Derived.Test.YtfbocehdhmpnaaaDoorNum
import Derived.Test.YtfbocehdhmpnaaaDoorRead
import Derived.Test.YtfbocehdhmpnaaaDoorSpec
import Derived.Test.YtfbocehdhmpnaaaDoorWWords
import Derived.Test.YtfbocehdhmpnaaaDoorWLast
import Derived.Test.YtfbocehdhmpnaaaDoorWTab
import Derived.Test.YtfbocehdhmpnaaaDoorWFour
import Derived.Test.YtfbocehdhmpnaaaDoorWQPut
import Derived.Test.YtfbocehdhmpnaaaDoorWApart
import Derived.Test.YtfbocehdhmpnaaaDoorWArr
import Derived.Test.YtfbocehdhmpnaaaDoorWZeros
import Derived.Test.YtfbocehdhmpnaaaDoorWFoot
import Derived.Test.YtfbocehdhmpnaaaDoorWKept
import Derived.Test.YtfbocehdhmpnaaaDoorWShare
import Derived.Test.YtfbocehdhmpnaaaDoorWN
import Derived.Test.YtfbocehdhmpnaaaDoorWFootNe
import Derived.Test.YtfbocehdhmpnaaaDoorWAt
import Derived.Test.YtfbocehdhmpnaaaDoorWEqStruct
import Derived.Test.YtfbocehdhmpnaaaDoorWRepsOne
import Derived.Test.YtfbocehdhmpnaaaDoorWInv
import Derived.Test.YtfbocehdhmpnaaaDoorWInvWords
import Derived.Test.YtfbocehdhmpnaaaDoorWGuard
import Derived.Test.YtfbocehdhmpnaaaDoorWNEv
import Derived.Test.YtfbocehdhmpnaaaDoorWMore
namespace Go.Proofs.YtfbocehdhmpnaaaDoor.Print
open Go.Proofs.YtfbocehdhmpnaaaDoor.Aux Go.Proofs.YtfbocehdhmpnaaaDoor.Spec
open Go.RowKit Go.Proofs.YtfbocehdhmpnaaaDoorW.PrintWords Go.Proofs.YtfbocehdhmpnaaaDoorW.PrintLast Go.Proofs.YtfbocehdhmpnaaaDoorW.PrintMore
attribute [local go_sem] max2_int min2_int max_two min_two max_three min_three max_four min_four   -- for this text's walks alone
set_option linter.unusedVariables false
set_option linter.unusedSimpArgs false



def errW : Option Int → Value
  | none => .nilIface
  | some c => .iface 52 (.int .i64 c)
theorem errW_none : errW none = .nilIface := rfl
theorem errW_some (c : Int) : errW (some c) = .iface 52 (.int .i64 c) := rfl

theorem info5 : (Tryd.prog.info? 5).map (fun i => (i.zero, i.size, i.bytes)) = some (some (.int .u8 0), 1, 1) := by kernel_rfl
-- the values' own types

end Go.Proofs.YtfbocehdhmpnaaaDoor.Print
