/-
  Proved: which sorts are known of any list, all of them, and where any stands, is what the document says: for lists of at most 200 names, names of at most 200 bytes.
-/
import Derived.Test.YthlilihilifhoaaDoorPureSorts
import Derived.Test.YthlilihilifhoaaDoorPrint11
namespace Go.Proofs.YthlilihilifhoaaDoor.Pure
set_option linter.unusedVariables false
set_option linter.unusedSimpArgs false
open Go.RowKit Go.Proofs.YthlilihilifhoaaDoor.Print Go.Proofs.YthlilihilifhoaaDoor.Spec Go.Proofs.YthlilihilifhoaaDoor.Aux Go.Proofs.YthlilihilifhoaaDoorW.PrintWords Go.Proofs.YthlilihilifhoaaDoorW.PrintLast Go.Proofs.YthlilihilifhoaaDoorW.PrintMore


theorem SortsPlaces : sequiturlaw05_SortsPlaces.Pure := by
  rintro l s ⟨hl, hx⟩ hs
  refine Ev.rounds (g := fun k => sequiturlaw05_SortsPlaces.f k l s) ?_
  unfold sequiturlaw05_SortsPlaces.f
  have hend : Ev (fun k => sequiturlaw05_SortsPlaces.j0 k l s true) true := by
    refine Ev.step (fun k => by simp only [sequiturlaw05_SortsPlaces.j0, if_true]) (Ev.bind alive_ev (Ev.now _))
  refine Ev.bind (few_ev l hl) ?_
  cases hfew : fewS l
  · exact Ev.neg (by simp) hend
  · have h200 := fewS_length hfew
    have h300 : l.length ≤ 300 := by omega
    refine Ev.pos rfl ?_
    by_cases hs2 : (s.size : Int) > 200
    · rw [decide_eq_true hs2]; exact hend
    · rw [decide_eq_false hs2]
      refine Ev.step (fun k => by simp only [sequiturlaw05_SortsPlaces.j0, if_neg (show ¬ (false = true) by decide), all_f l h300, refAll_f l h300, place_f l s h300, known_f l s h300, Option.bind_some]; rfl) ?_
      have hlen : (allS l).length ≤ maxLen := by unfold maxLen; simp [allS]; omega
      refine Ev.bind (strings_ev _ _ hlen) (Ev.pos (by simp) (Ev.bind (refPlace_ev l s h300) (Ev.pos rfl (Ev.bind (refPlace_ev l s h300) (Ev.pos ?_ (Ev.bind alive_ev (Ev.now _)))))))
      have := idxFrom_has s (allS l) 0
      simp only [placeS]
      rw [← this]; simp

end Go.Proofs.YthlilihilifhoaaDoor.Pure
