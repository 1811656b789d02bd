import Derived.Test.YtjmbdejejlcklaaDoorWInv
import Derived.Test.YtjmbdejejlcklaaDoorWFootNe
namespace Go.Proofs.YtjmbdejejlcklaaDoorW.PrintWords
open Go.RowKit
end Go.Proofs.YtjmbdejejlcklaaDoorW.PrintWords
namespace Go.Proofs.YtjmbdejejlcklaaDoorW.PrintLast
section
variable {ops : Array Oper} {a : Act} {o og : Oper} {g : Nat} {t : Tmp} {u : Bool}
end
end Go.Proofs.YtjmbdejejlcklaaDoorW.PrintLast
