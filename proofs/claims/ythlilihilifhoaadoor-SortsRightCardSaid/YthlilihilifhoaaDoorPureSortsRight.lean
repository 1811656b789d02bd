/-
  Proved: whether any list of sorts may be, or its first error, is what the document says: for lists of at most 200 names of at most 200 bytes each; the list stays as it was.
-/
import Derived.Test.YthlilihilifhoaaDoorPureSorts
import Derived.Test.YthlilihilifhoaaDoorPrint5
namespace Go.Proofs.YthlilihilifhoaaDoor.Pure
set_option linter.unusedVariables false
set_option linter.unusedSimpArgs false
open Go.RowKit Go.Proofs.YthlilihilifhoaaDoor.Print Go.Proofs.YthlilihilifhoaaDoor.Spec Go.Proofs.YthlilihilifhoaaDoor.Aux Go.Proofs.YthlilihilifhoaaDoorW.PrintWords Go.Proofs.YthlilihilifhoaaDoorW.PrintLast Go.Proofs.YthlilihilifhoaaDoorW.PrintMore


theorem SortsRight : sequiturlaw05_SortsRight.Pure := by
  rintro l ⟨hl, hx⟩
  refine Ev.rounds (g := fun k => sequiturlaw05_SortsRight.f k l) ?_
  unfold sequiturlaw05_SortsRight.f
  have hr := right_ev l hl
  have hf := refRight_ev l hl hx
  refine Ev.bind (few_ev l hl) ?_
  cases hfew : fewS l
  · refine Ev.neg (by simp) (Ev.bind alive_ev (Ev.pos rfl (Ev.now _)))
  · refine Ev.pos rfl (Ev.bind (few_ev l hl) (Ev.pos hfew (Ev.bind hr (Ev.bind hf (Ev.pos rfl (Ev.bind alive_ev (Ev.now _)))))))

end Go.Proofs.YthlilihilifhoaaDoor.Pure
