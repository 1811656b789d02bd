-- own work: an evaluator of the program's code, and what it answers
import Derived.Test.YtapjanalameofaaDoorFmt
import Derived.Test.YtapjanalameofaaDoorWord
/- The program as the machine reckons it. -/
set_option maxRecDepth 100000
set_option linter.unusedVariables false
namespace Go.Eng
open Go Go.RowKit Go.Proofs
theorem progAn : ProgOK Tryd.prog An := by
  refine ProgOK.of fnL (fun f => rfl) (by kernel_rfl) (fun f q hq => ?_)
  have hq' : (if f = 76 then some fmtQ else if f = 50 then some joinQ else if f = 79 then some wordQ else none) = some q := hq
  split at hq'
  · rename_i h; subst h; cases hq'; exact fmtOK fun _ h => h
  · split at hq'
    · rename_i h; subst h; cases hq'; exact joinOK
    · split at hq'
      · rename_i h; subst h; cases hq'; exact wordOK fun _ h => h.ws
      · cases hq'
end Go.Eng
