/-
  Proved: a signature with a sort or a function put in, or the error, is what the document says: for signatures of at most 70 sorts and 20 functions, names of at most 100 bytes.
-/
import Derived.Test.YtdnlaeefalmgpaaDoorPureSignBase
import Derived.Test.YtdnlaeefalmgpaaDoorPrint5
namespace Go.Proofs.YtdnlaeefalmgpaaDoor.Pure
set_option linter.unusedVariables false
set_option linter.unusedSimpArgs false
open Go.RowKit Go.Proofs.YtdnlaeefalmgpaaDoor.Print Go.Proofs.YtdnlaeefalmgpaaDoor.Spec Go.Proofs.YtdnlaeefalmgpaaDoor.Aux Go.Proofs.YtdnlaeefalmgpaaDoorW.PrintWords Go.Proofs.YtdnlaeefalmgpaaDoorW.PrintLast Go.Proofs.YtdnlaeefalmgpaaDoorW.PrintMore


theorem SignPuts : sequiturlaw06_SignPuts.Pure := by
  rintro s0 f0 a n l r ⟨hs0, _⟩ hf0 ha hn ⟨hl, _⟩ hr
  have hw0 := wide_of hf0
  refine Ev.rounds (g := fun k => sequiturlaw06_SignPuts.f k s0 f0 a n l r) ?_
  unfold sequiturlaw06_SignPuts.f
  have hend : Ev (fun k => sequiturlaw06_SignPuts.j0 k a true s0 f0 n l r) true := Ev.step (f := fun _ => some true) (fun k => by simp only [sequiturlaw06_SignPuts.j0, if_true]) (Ev.now _)
  refine Ev.bind sAlive_ev (Ev.pos rfl (Ev.bind (long_ev s0 f0 hs0 hw0) ?_))
  cases h0 : longS s0 f0
  · refine Ev.neg (by simp) (Ev.bind (longFun_ev ⟨n, l, r⟩ hl) ?_)
    cases h1 : longF ⟨n, l, r⟩
    · refine Ev.neg (by simp) ?_
      by_cases h2 : (a.size : Int) > 100
      · rw [decide_eq_true h2]; exact hend
      · rw [decide_eq_false h2]
        obtain ⟨hs0, hf0⟩ := long_good h0
        have h20 := (longS_not h0).2
        have hlen : l.length ≤ 300 := by have := (longF_not h1).2.2; simp only at this; omega
        obtain ⟨g1, g2⟩ := sortS_good s0 f0 a hf0
        obtain ⟨g3, g4⟩ := funS_good s0 f0 ⟨n, l, r⟩ hs0 ⟨h20, hf0.2⟩ hlen
        refine Ev.step (fun k => by simp only [sequiturlaw06_SignPuts.j0, Bool.false_eq_true, if_false]; rfl) ?_
        refine Ev.bind (sort_ev s0 f0 a hs0 hf0) (Ev.bind (refSort_ev s0 f0 a (le_max hs0) (le_max hf0.1) ha) ?_)
        refine Ev.bind (fun_ev s0 f0 n l r hs0 hf0 hlen) (Ev.bind (refFun_ev s0 f0 n l r (le_max hs0) hf0.1 (le_max hlen) hn) ?_)
        refine Ev.bind (baseSign_ev _ _ _ _ (le_max g1) g2) (Ev.pos (by simp) (Ev.pos rfl ?_))
        exact Ev.bind (baseSign_ev _ _ _ _ (le_max g3) g4) (Ev.pos (by simp) (Ev.some_ (by simp)))
    · exact Ev.pos rfl hend
  · exact Ev.pos rfl hend
end Go.Proofs.YtdnlaeefalmgpaaDoor.Pure
