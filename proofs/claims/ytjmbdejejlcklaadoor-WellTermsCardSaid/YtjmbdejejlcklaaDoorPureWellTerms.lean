/-
  WellTerms
-/
import Derived.Test.YtjmbdejejlcklaaDoorPureWell
import Derived.Test.YtjmbdejejlcklaaDoorPrint4
import Derived.Test.YtjmbdejejlcklaaDoorPrint9
namespace Go.Proofs.YtjmbdejejlcklaaDoor.Pure
set_option linter.unusedVariables false
set_option linter.unusedSimpArgs false
open Go.RowKit Go.Proofs.YtjmbdejejlcklaaDoor.Print Go.Proofs.YtjmbdejejlcklaaDoor.Spec Go.Proofs.YtjmbdejejlcklaaDoor.Aux Go.Proofs.YtjmbdejejlcklaaDoorW.PrintWords Go.Proofs.YtjmbdejejlcklaaDoorW.PrintLast Go.Proofs.YtjmbdejejlcklaaDoorW.PrintMore

theorem goes_ev : Ev (fun k => sequiturlaw13_goes.f k) true := Ev.of (fun k => sequiturlaw13_goes.mono k) (k := 8) (by decide +kernel)
theorem WellTerms : sequiturlaw13_WellTerms.Pure := by
  intro sorts funs vars binders op nm nu l hs hf hv hb ho hn hu hl
  have hT := lenT_top (op := op) (nm := nm) (nu := nu) hl
  have hin := rin_ev sorts funs vars binders hf.1 hv.1 hb.1 _ hT
  have hto := rin_ev sorts funs vars [] hf.1 hv.1 (Nat.zero_le _) _ hT
  have hw1 := within_way funs vars binders ⟨op, nm, nu, l⟩
  have hw2 := within_way funs vars [] ⟨op, nm, nu, l⟩
  dsimp only at hin hto
  have hj : ∀ b, Ev (fun k => sequiturlaw13_WellTerms.j0 k vars binders b sorts funs op nm nu l) true := by
    intro b
    cases b with
    | true =>
      refine Ev.step (f := fun k => (sequiturlaw13_goes.f k).bind fun t => some t) (fun k => ?_) (Ev.bind goes_ev (Ev.now _))
      simp only [sequiturlaw13_WellTerms.j0, if_true]
    | false =>
      apply Ev.step
      · intro k
        simp only [sequiturlaw13_WellTerms.j0, Bool.false_eq_true, if_false]
        rfl
      · refine Ev.bind (a := withinR funs vars binders ⟨op, nm, nu, l⟩) (Ev.now _) ?_
        refine Ev.bind (a := withinR funs vars [] ⟨op, nm, nu, l⟩) (Ev.now _) ?_
        refine Ev.bind hin (Ev.bind hto ?_)
        refine Ev.pos rfl (Ev.bind (ints_ev _ (by unfold maxLen; omega)) (Ev.pos rfl (Ev.pos rfl ?_)))
        refine Ev.pos rfl (Ev.bind (ints_ev _ (by unfold maxLen; omega)) (Ev.pos rfl (Ev.pos rfl ?_)))
        exact Ev.bind goes_ev (Ev.now _)
  have hall : Ev (fun k => sequiturlaw13_WellTerms.f k sorts funs vars binders op nm nu l) true := by
    obtain ⟨b, hb2⟩ := few_ev sorts funs vars hf.1
    unfold sequiturlaw13_WellTerms.f
    refine Ev.bind (size_ev _ _ (Nat.le_refl _) hT 5000 (by omega)) (Ev.bind hb2 ?_)
    cases b with
    | false => exact Ev.neg (by decide) (hj _)
    | true =>
      refine Ev.pos rfl ?_
      by_cases h1 : (binders.length : Int) > 100
      · exact Ev.pos h1 (hj _)
      · refine Ev.neg h1 ?_
        by_cases h2 : ((min (keysT (⟨op, nm, nu, l⟩ : S29)).length (5000 + 1) : Nat) : Int) > 300
        · refine Ev.pos h2 ?_
          by_cases h3 : ((min (keysT (⟨op, nm, nu, l⟩ : S29)).length (5000 + 1) : Nat) : Int) ≤ 4096
          · exact Ev.pos h3 (hj _)
          · exact Ev.neg h3 (hj _)
        · exact Ev.neg h2 (hj _)
  obtain ⟨K, hK⟩ := hall
  exact ⟨K, hK K (Nat.le_refl _)⟩
end Go.Proofs.YtjmbdejejlcklaaDoor.Pure
