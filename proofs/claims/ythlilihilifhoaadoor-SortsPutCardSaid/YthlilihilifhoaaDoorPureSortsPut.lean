/-
  Proved: any list with any sort put in, or the error, is what the document says, and the list stays as it was: for lists of at most 200 names, names of at most 200 bytes.
-/
import Derived.Test.YthlilihilifhoaaDoorPureSorts
import Derived.Test.YthlilihilifhoaaDoorPrint7
namespace Go.Proofs.YthlilihilifhoaaDoor.Pure
set_option linter.unusedVariables false
set_option linter.unusedSimpArgs false
open Go.RowKit Go.Proofs.YthlilihilifhoaaDoor.Print Go.Proofs.YthlilihilifhoaaDoor.Spec Go.Proofs.YthlilihilifhoaaDoor.Aux Go.Proofs.YthlilihilifhoaaDoorW.PrintWords Go.Proofs.YthlilihilifhoaaDoorW.PrintLast Go.Proofs.YthlilihilifhoaaDoorW.PrintMore


theorem SortsPut : sequiturlaw05_SortsPut.Pure := by
  rintro l s ⟨hl, hx⟩ hs
  refine Ev.rounds (g := fun k => sequiturlaw05_SortsPut.f k l s) ?_
  unfold sequiturlaw05_SortsPut.f
  have hend : Ev (fun k => sequiturlaw05_SortsPut.j0 k l s true) true := by
    refine Ev.step (fun k => by simp only [sequiturlaw05_SortsPut.j0, if_true]) (Ev.bind alive_ev (Ev.now _))
  refine Ev.bind (few_ev l hl) ?_
  cases hfew : fewS l
  · exact Ev.neg (by simp) hend
  · have h200 := fewS_length hfew
    refine Ev.pos rfl ?_
    by_cases hs2 : (s.size : Int) > 200
    · rw [decide_eq_true hs2]; exact hend
    · rw [decide_eq_false hs2]
      refine Ev.step (f := fun k => (sorts_Put.f k l s).bind fun a => (sequiturref05_Put.f k l s).bind fun b => (sequiturbase_Strings.f k a.1 b.1).bind fun t => if t = true then (if a.2 = b.2 then ((sequiturbase_Strings.f k l l).bind fun u => if u = true then ((sequiturlaw05_alive.f k).bind fun v => some v) else some false) else some false) else some false) (fun k => ?_) ?_
      · simp only [sequiturlaw05_SortsPut.j0, if_neg (show ¬ (false = true) by decide), Option.bind_some, List.length_nil, List.nil_append]
        rw [if_pos (by omega)]
      · refine Ev.bind (put_ev l s hl) (Ev.bind (refPut_ev l s hl hs) (Ev.bind (strings_ev _ _ ?_) ?_))
        · unfold putS maxLen
          split
          · split
            · simp
            · split
              · simp
              · simp; omega
          · simp
        · refine Ev.pos (by simp) (Ev.pos rfl (Ev.bind (strings_ev l l hl) (Ev.pos (by simp) (Ev.bind alive_ev (Ev.now _)))))

end Go.Proofs.YthlilihilifhoaaDoor.Pure
