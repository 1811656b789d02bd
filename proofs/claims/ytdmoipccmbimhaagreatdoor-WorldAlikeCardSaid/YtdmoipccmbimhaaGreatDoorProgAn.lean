-- own work: an evaluator of the program's code, and what it answers
import Derived.Test.YtdmoipccmbimhaaGreatDoorTermR
import Derived.Test.YtdmoipccmbimhaaGreatDoorRep
import Derived.Test.YtdmoipccmbimhaaGreatDoorWord
/- The program as the machine reckons it. -/
set_option maxRecDepth 100000
set_option linter.unusedVariables false
namespace Go.Eng
open Go Go.RowKit Go.Proofs
theorem progAn : ProgOK Tryz.prog An := by
  refine ProgOK.of fnA (fun f => rfl) (by kernel_rfl) (fun f q hq => ?_)
  have hq' : (if f = 129 then some rightQ else if f = 157 then some sizeQ else if f = 164 then some repQ else if f = 150 then some wordQ else none) = some q := hq
  split at hq'
  · rename_i h; subst h; cases hq'; exact rightOK fun _ h => h.1
  · split at hq'
    · rename_i h; subst h; cases hq'; exact sizeOK
    · split at hq'
      · rename_i h; subst h; cases hq'; exact repOK
      · split at hq'
        · rename_i h; subst h; cases hq'; exact wordOK fun _ h => h.2
        · cases hq'
end Go.Eng
