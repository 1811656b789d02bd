-- own work: an evaluator of the program's code, and what it answers
import Derived.Test.YtjmbdejejlcklaaDoorTermR
import Derived.Test.YtjmbdejejlcklaaDoorRep
/- The program as the machine reckons it. -/
set_option maxRecDepth 100000
set_option linter.unusedVariables false
namespace Go.Eng
open Go Go.RowKit Go.Proofs
theorem progAn : ProgOK Tryd.prog An := by
  refine ProgOK.of fnL (fun f => rfl) (by kernel_rfl) (fun f q hq => ?_)
  have hq' : (if f = 24 then some rightQ else if f = 45 then some sizeQ else if f = 55 then some repQ else none) = some q := hq
  split at hq'
  · rename_i h; subst h; cases hq'; exact rightOK fun _ h => h
  · split at hq'
    · rename_i h; subst h; cases hq'; exact sizeOK
    · split at hq'
      · rename_i h; subst h; cases hq'; exact repOK
      · cases hq'
end Go.Eng
