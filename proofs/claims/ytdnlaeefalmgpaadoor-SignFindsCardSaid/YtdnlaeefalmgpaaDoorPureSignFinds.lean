/-
  Proved: the function of a name, the constants of a sort, and whether two signatures are the same, are what the document says: for signatures of at most 70 sorts and 20 functions, names of at most 100 bytes.
-/
import Derived.Test.YtdnlaeefalmgpaaDoorPureSignBase
import Derived.Test.YtdnlaeefalmgpaaDoorPrint4
namespace Go.Proofs.YtdnlaeefalmgpaaDoor.Pure
set_option linter.unusedVariables false
set_option linter.unusedSimpArgs false
open Go.RowKit Go.Proofs.YtdnlaeefalmgpaaDoor.Print Go.Proofs.YtdnlaeefalmgpaaDoor.Spec Go.Proofs.YtdnlaeefalmgpaaDoor.Aux Go.Proofs.YtdnlaeefalmgpaaDoorW.PrintWords Go.Proofs.YtdnlaeefalmgpaaDoorW.PrintLast Go.Proofs.YtdnlaeefalmgpaaDoorW.PrintMore


theorem SignFinds : sequiturlaw06_SignFinds.Pure := by
  rintro s0 f0 s1 f1 a ⟨hs0, _⟩ hf0 ⟨hs1, _⟩ hf1 ha
  have hw0 := wide_of hf0
  have hw1 := wide_of hf1
  refine Ev.rounds (g := fun k => sequiturlaw06_SignFinds.f k s0 f0 s1 f1 a) ?_
  unfold sequiturlaw06_SignFinds.f
  have hend : Ev (fun k => sequiturlaw06_SignFinds.j0 k a true s0 f0 s1 f1) true := Ev.step (f := fun _ => some true) (fun k => by simp only [sequiturlaw06_SignFinds.j0, if_true]) (Ev.now _)
  refine Ev.bind sAlive_ev (Ev.pos rfl (Ev.bind (long_ev s0 f0 hs0 hw0) ?_))
  cases h0 : longS s0 f0
  · refine Ev.neg (by simp) (Ev.bind (long_ev s1 f1 hs1 hw1) ?_)
    cases h1 : longS s1 f1
    · refine Ev.neg (by simp) ?_
      by_cases h2 : (a.size : Int) > 100
      · rw [decide_eq_true h2]; exact hend
      · rw [decide_eq_false h2]
        obtain ⟨hs0, hf0⟩ := long_good h0
        obtain ⟨hs1, hf1⟩ := long_good h1
        refine Ev.step (fun k => by simp only [sequiturlaw06_SignFinds.j0, Bool.false_eq_true, if_false]; rfl) ?_
        refine Ev.bind (find_ev s0 f0 a (le_max hf0.1)) (Ev.bind (refFind_ev s0 f0 a (le_max hf0.1)) ?_)
        refine Ev.bind (baseFun_ev ⟨_, _, _⟩ ⟨_, _, _⟩ ?_) ?_
        · show (foundS (findS f0 a)).2.1.length ≤ maxLen
          rcases placeF_find f0 a with ⟨h, _⟩ | ⟨j, hj, _, h⟩
          · rw [h]; simp [foundS]
          · rw [h]; exact le_max (hf0.2 _ (List.getElem_mem _))
        · refine Ev.pos (by simp) (Ev.pos (by simp) ?_)
          refine Ev.bind (consts_ev s0 f0 a hf0.1) (Ev.bind (refConsts_ev s0 f0 a hf0.1) (Ev.bind (strings_ev _ _ ?_) ?_))
          · exact Nat.le_trans (constsS_length a f0) (le_max hf0.1)
          · refine Ev.pos (by simp) (Ev.bind (same_ev s0 s1 f0 f1 (le_max hs0) hf0) (Ev.bind (baseSign_ev s0 s1 f0 f1 (le_max hs0) hf0) (Ev.pos (by simp) ?_)))
            exact Ev.bind (same_ev s0 s0 f0 f0 (le_max hs0) hf0) (Ev.some_ (by simp))
    · exact Ev.pos rfl hend
  · exact Ev.pos rfl hend
end Go.Proofs.YtdnlaeefalmgpaaDoor.Pure
