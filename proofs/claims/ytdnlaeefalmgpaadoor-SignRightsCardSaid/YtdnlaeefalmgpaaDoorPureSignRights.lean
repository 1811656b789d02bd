/-
  Proved: which signatures and functions may be, or the first error, is what the document says: for signatures of at most 70 sorts and 20 functions, names of at most 100 bytes.
-/
import Derived.Test.YtdnlaeefalmgpaaDoorPureSignRight
import Derived.Test.YtdnlaeefalmgpaaDoorPrint5
namespace Go.Proofs.YtdnlaeefalmgpaaDoor.Pure
set_option linter.unusedVariables false
set_option linter.unusedSimpArgs false
open Go.RowKit Go.Proofs.YtdnlaeefalmgpaaDoor.Print Go.Proofs.YtdnlaeefalmgpaaDoor.Spec Go.Proofs.YtdnlaeefalmgpaaDoor.Aux Go.Proofs.YtdnlaeefalmgpaaDoorW.PrintWords Go.Proofs.YtdnlaeefalmgpaaDoorW.PrintLast Go.Proofs.YtdnlaeefalmgpaaDoorW.PrintMore


theorem SignRights : sequiturlaw06_SignRights.Pure := by
  rintro s0 f0 n l r ⟨hs0, hx0⟩ hf0 hn ⟨hl, _⟩ hr
  have hw0 := wide_of hf0
  refine Ev.rounds (g := fun k => sequiturlaw06_SignRights.f k s0 f0 n l r) ?_
  unfold sequiturlaw06_SignRights.f
  have hend : Ev (fun k => sequiturlaw06_SignRights.j0 k true s0 f0 n l r) true := Ev.step (f := fun _ => some true) (fun k => by simp only [sequiturlaw06_SignRights.j0, if_true]) (Ev.now _)
  refine Ev.bind sAlive_ev (Ev.pos rfl (Ev.bind (long_ev s0 f0 hs0 hw0) ?_))
  cases h0 : longS s0 f0
  · refine Ev.neg (by simp) (Ev.bind (longFun_ev ⟨n, l, r⟩ hl) ?_)
    cases h1 : longF ⟨n, l, r⟩
    · obtain ⟨hs1, hf1⟩ := long_good h0
      refine Ev.step (fun k => by simp only [sequiturlaw06_SignRights.j0, Bool.false_eq_true, if_false]; rfl) ?_
      refine Ev.bind (rightF_ev s0 f0 hs1 hw0) (Ev.bind (refRightF_ev s0 f0 hs0 hx0 hw0 (fun x hx => (hf0.2 x hx).1)) (Ev.pos rfl ?_))
      exact Ev.bind (check_ev s0 f0 n l r hs1 hl) (Ev.bind (refCheck_ev s0 f0 n l r hs0 hl hn) (Ev.some_ (by simp)))
    · exact hend
  · exact Ev.pos rfl hend
end Go.Proofs.YtdnlaeefalmgpaaDoor.Pure
