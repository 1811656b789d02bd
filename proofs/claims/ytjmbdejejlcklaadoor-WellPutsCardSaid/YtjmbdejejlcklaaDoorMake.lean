import Derived.Test.YtjmbdejejlcklaaDoorWWords
import Derived.Test.YtjmbdejejlcklaaDoorWLast
namespace Go.Proofs.YtjmbdejejlcklaaDoor.Aux
set_option linter.unusedVariables false
set_option linter.unusedSimpArgs false
open Go.RowKit Go.Proofs.YtjmbdejejlcklaaDoorW.PrintWords Go.Proofs.YtjmbdejejlcklaaDoorW.PrintLast
section
variable {P : Program} {ops : Array Oper} {rest : List Oper} {o : Oper} {a : Act} {Q : Exit → Act → World → Prop} {α : Type}
end
end Go.Proofs.YtjmbdejejlcklaaDoor.Aux
