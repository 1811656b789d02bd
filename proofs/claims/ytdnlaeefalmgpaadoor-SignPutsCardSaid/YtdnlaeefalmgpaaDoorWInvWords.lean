import Derived.Test.YtdnlaeefalmgpaaDoorWInv
import Derived.Test.YtdnlaeefalmgpaaDoorWFootNe
namespace Go.Proofs.YtdnlaeefalmgpaaDoorW.PrintWords
open Go.RowKit
end Go.Proofs.YtdnlaeefalmgpaaDoorW.PrintWords
namespace Go.Proofs.YtdnlaeefalmgpaaDoorW.PrintLast
section
variable {ops : Array Oper} {a : Act} {o og : Oper} {g : Nat} {t : Tmp} {u : Bool}
end
end Go.Proofs.YtdnlaeefalmgpaaDoorW.PrintLast
