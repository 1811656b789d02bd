/-
  Proved: what is written is read as it was; what is read is written just so; unlike numbers have unlike digits: for any two numbers, texts of at most 300 bytes.
-/
import Derived.Test.YtfbocehdhmpnaaaDoorPureDigLaw
import Derived.Test.YtfbocehdhmpnaaaDoorPrint8
namespace Go.Proofs.YtfbocehdhmpnaaaDoor.Pure
set_option linter.unusedVariables false
set_option linter.unusedSimpArgs false
open Go.RowKit Go.Lib Go.Proofs.YtfbocehdhmpnaaaDoor.Print Go.Proofs.YtfbocehdhmpnaaaDoor.Spec Go.Proofs.YtfbocehdhmpnaaaDoor.Aux Go.Proofs.YtfbocehdhmpnaaaDoorW.PrintWords Go.Proofs.YtfbocehdhmpnaaaDoorW.PrintLast Go.Proofs.YtfbocehdhmpnaaaDoorW.PrintMore

theorem i64_wf_ {n : Int} (h : (Lit.int .i64 n).wf = true) : -9223372036854775808 ≤ n ∧ n ≤ 9223372036854775807 := by
  simp [Lit.wf, IntKind.min, IntKind.max, IntKind.signed, IntKind.bits] at h
  omega
theorem DigitBack : sequiturlaw02_DigitBack.Pure := by
  intro a b s ha hb hs
  obtain ⟨ha0, ha1⟩ := i64_wf_ ha
  obtain ⟨hb0, hb1⟩ := i64_wf_ hb
  refine Ev.rounds (g := fun k => sequiturlaw02_DigitBack.f k a b s) ?_
  unfold sequiturlaw02_DigitBack.f
  by_cases h : (s.size : Int) > 300
  · exact Ev.pos h (Ev.bind alive_ev (Ev.now _))
  · have hj : Ev (fun k => sequiturlaw02_DigitBack.j0 k s false) true := by
      refine Ev.step (f := fun k => (digit_Read.f k s).bind fun x => if x.2 = 0 then ((digit_Text.f x.1).bind fun t => if t.toList = s.toList then ((sequiturlaw02_alive.f k).bind fun u => some u) else some false) else ((sequiturlaw02_alive.f k).bind fun u => some u)) (fun k => by simp only [sequiturlaw02_DigitBack.j0, Bool.false_eq_true, if_false]) ?_
      refine Ev.bind (read_ev s (by omega)) ?_
      by_cases h2 : (readS s.data.toList).2 = 0
      · refine Ev.pos h2 ?_
        have h3 := (readS_iff s.data.toList (readS s.data.toList).1).1 (by rw [← h2])
        generalize (readS s.data.toList).1 = v at h3 ⊢
        rw [text_f v h3.2.1 h3.2.2, ← h3.1, mkB_of]
        simp only [Option.bind_some]
        exact Ev.pos (by simp) (Ev.bind alive_ev (Ev.now _))
      · exact Ev.neg h2 (Ev.bind alive_ev (Ev.now _))
    refine Ev.neg h ?_
    rw [text_f a ha0 ha1, text_f b hb0 hb1]
    simp only [Option.bind_some]
    have hla := itoa_len a ha0 ha1
    have hra := (readS_iff (itoa a) a).2 ⟨rfl, ha0, ha1⟩
    refine Ev.bind (read_ev (mkB (itoa a)) (by rw [mkB_size]; omega)) ?_
    rw [mkB_data, hra]
    refine Ev.pos rfl (Ev.pos rfl ?_)
    rw [mkB_toList, mkB_toList]
    by_cases hab : a = b
    · subst hab
      exact Ev.pos (by simp) (Ev.pos (by simp) hj)
    · exact Ev.neg (fun he => hab (itoa_inj he ⟨ha0, ha1⟩ ⟨hb0, hb1⟩)) (Ev.neg hab hj)
end Go.Proofs.YtfbocehdhmpnaaaDoor.Pure
