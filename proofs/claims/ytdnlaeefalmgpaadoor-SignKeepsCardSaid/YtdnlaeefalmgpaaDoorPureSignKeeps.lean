/-
  Proved: what is put into a signature that may be, without error, may be, and is found; what was there is found as it was: for signatures of at most 70 sorts and 20 functions, names of at most 100 bytes.
-/
import Derived.Test.YtdnlaeefalmgpaaDoorPureSignRight
import Derived.Test.YtdnlaeefalmgpaaDoorPrint4
namespace Go.Proofs.YtdnlaeefalmgpaaDoor.Pure
set_option linter.unusedVariables false
set_option linter.unusedSimpArgs false
open Go.RowKit Go.Proofs.YtdnlaeefalmgpaaDoor.Print Go.Proofs.YtdnlaeefalmgpaaDoor.Spec Go.Proofs.YtdnlaeefalmgpaaDoor.Aux Go.Proofs.YtdnlaeefalmgpaaDoorW.PrintWords Go.Proofs.YtdnlaeefalmgpaaDoorW.PrintLast Go.Proofs.YtdnlaeefalmgpaaDoorW.PrintMore


theorem keeps_loop (so : List ByteArray) (gs fs : List S33) (hg : gs.length ≤ 300) (hf : goodF fs) (hu : ∀ x ∈ fs, findS gs x.f0 = some x) : ∀ (d i : Nat), i + d = fs.length → Ev (fun k => sequiturlaw06_SignKeeps.l0 k fs fs.length i so gs) true
  | 0, i, h => by
    refine Ev.step (f := fun _ => some true) (fun k => ?_) (Ev.now _)
    simp only [sequiturlaw06_SignKeeps.l0]; rw [if_neg (by omega)]
  | d + 1, i, h => by
    have ih := keeps_loop so gs fs hg hf hu d (i + 1) (by omega)
    have h1 := hf.1
    refine Ev.step (f := fun k => (sign_Find.f k so gs fs[i].f0).bind fun b => if b.2.2.2 = true then ((sequiturbase_Fun.f k fs[i].f0 fs[i].f1 fs[i].f2 b.1 b.2.1 b.2.2.1).bind fun t => if t = true then sequiturlaw06_SignKeeps.l0 k fs fs.length ((i + 1 : Nat) : Int) so gs else none) else none) (fun k => ?_) ?_
    · simp only [sequiturlaw06_SignKeeps.l0]
      rw [if_pos (by omega), if_pos (by omega), if_pos (by omega), rdT_at fs i (by omega), wrap_succ i (by omega)]
    · refine Ev.bind (find_ev so gs _ (le_max hg)) ?_
      rw [hu _ (List.getElem_mem _)]
      refine Ev.pos rfl (Ev.bind (baseFun_ev fs[i] ⟨_, _, _⟩ (le_max (hf.2 _ (List.getElem_mem _)))) ?_)
      exact Ev.pos (by rw [decide_eq_true_eq]; rfl) ih
theorem keeps_fun (so : List ByteArray) (fs : List S33) (g : S33) (hs : so.length ≤ 300) (hf : fs.length ≤ 20 ∧ ∀ x ∈ fs, x.f1.length ≤ 300) (hg : g.f1.length ≤ 300) (hr : rightF so fs = 0) : Ev (fun k => sequiturlaw06_SignKeeps.j1 k so fs g.f0 g.f1 g.f2) true := by
  have hgood : goodF fs := ⟨by have := hf.1; omega, hf.2⟩
  obtain ⟨g3, g4⟩ := funS_good so fs g hs hf hg
  refine Ev.step (fun k => by simp only [sequiturlaw06_SignKeeps.j1]; rfl) (Ev.bind (fun_ev so fs g.f0 g.f1 g.f2 hs hgood hg) ?_)
  show Ev (fun k => if (funS so fs g).2.2 = 0 then _ else _) true
  by_cases e : (funS so fs g).2.2 = 0
  · obtain ⟨r1, r2, r3⟩ := fun_keeps hr e
    refine Ev.pos e (Ev.bind (find_ev _ _ _ (le_max g4.1)) (Ev.bind (rightF_ev _ _ g3 g4.wide) (Ev.pos r1 ?_)))
    show Ev (fun k => if (foundS (findS (funS so fs g).2.1 g.f0)).2.2.2 = true then _ else _) true
    rw [r2]
    refine Ev.pos rfl (Ev.bind (baseFun_ev g ⟨_, _, _⟩ (le_max hg)) ?_)
    rw [show decide (g = (⟨(foundS (some g)).1, (foundS (some g)).2.1, (foundS (some g)).2.2.1⟩ : S33)) = true by rw [decide_eq_true_eq]; rfl]
    refine Ev.step (fun k => by simp only [sequiturlaw06_SignKeeps.j2, Bool.not_true, Bool.false_eq_true, if_false]; rfl) ?_
    exact keeps_loop _ _ fs g4.1 hgood r3 fs.length 0 (by omega)
  · obtain ⟨q1, q2⟩ := fun_error e
    refine Ev.neg e (Ev.some_ ?_)
    show ((wrap64 (((funS so fs g).1.length : Int) + ((funS so fs g).2.1.length : Int))) == 0) = true
    rw [q1, q2]
    decide +kernel
theorem SignKeeps : sequiturlaw06_SignKeeps.Pure := by
  rintro s0 f0 a n l r ⟨hs0, hx0⟩ hf0 ha hn ⟨hl, _⟩ hr
  have hw0 := wide_of hf0
  refine Ev.rounds (g := fun k => sequiturlaw06_SignKeeps.f k s0 f0 a n l r) ?_
  unfold sequiturlaw06_SignKeeps.f
  have hend : Ev (fun k => sequiturlaw06_SignKeeps.j0 k a true s0 f0 n l r) true := Ev.step (f := fun _ => some true) (fun k => by simp only [sequiturlaw06_SignKeeps.j0, if_true]) (Ev.now _)
  refine Ev.bind sAlive_ev (Ev.pos rfl (Ev.bind (long_ev s0 f0 hs0 hw0) ?_))
  cases h0 : longS s0 f0
  · refine Ev.neg (by simp) (Ev.bind (longFun_ev ⟨n, l, r⟩ hl) ?_)
    cases h1 : longF ⟨n, l, r⟩
    · refine Ev.neg (by simp) ?_
      by_cases h2 : (a.size : Int) > 100
      · exact Ev.pos h2 hend
      · refine Ev.neg h2 ?_
        obtain ⟨hs1, hf1⟩ := long_good h0
        have h20 := (longS_not h0).2
        have hlen : l.length ≤ 300 := by have := (longF_not h1).2.2; simp only at this; omega
        refine Ev.bind (rightF_ev s0 f0 hs1 hw0) ?_
        by_cases e : rightF s0 f0 = 0
        · rw [e]
          have e0 : ((0 : Int) != 0) = false := by decide
          obtain ⟨g1, g2⟩ := sortS_good s0 f0 a hf1
          have hfun := keeps_fun s0 f0 ⟨n, l, r⟩ hs1 ⟨h20, hf1.2⟩ hlen e
          refine Ev.step (fun k => by simp only [sequiturlaw06_SignKeeps.j0, e0, Bool.false_eq_true, if_false]; rfl) (Ev.bind (sort_ev s0 f0 a hs1 hf1) ?_)
          show Ev (fun k => if (sortS s0 f0 a).2.2 = 0 then _ else _) true
          by_cases es : (sortS s0 f0 a).2.2 = 0
          · obtain ⟨r1, r2⟩ := sort_keeps e es
            refine Ev.pos es (Ev.bind (rightF_ev _ _ g1 g2.wide) (Ev.pos r1 (Ev.bind (has_ev _ _ (le_max g1)) (Ev.pos r2 hfun))))
          · exact Ev.neg es hfun
        · have e0 : (rightF s0 f0 != 0) = true := by simpa using e
          rw [e0]; exact hend
    · exact Ev.pos rfl hend
  · exact Ev.pos rfl hend
end Go.Proofs.YtdnlaeefalmgpaaDoor.Pure
