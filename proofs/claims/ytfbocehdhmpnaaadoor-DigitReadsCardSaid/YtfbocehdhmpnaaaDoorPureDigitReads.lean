/-
  Proved: the number of any text, or that there is none, or that it is too great, is what the document says; so it is up to any number: for texts of at most 300 bytes, any number.
-/
import Derived.Test.YtfbocehdhmpnaaaDoorPureDigLaw
import Derived.Test.YtfbocehdhmpnaaaDoorPrint7
namespace Go.Proofs.YtfbocehdhmpnaaaDoor.Pure
set_option linter.unusedVariables false
set_option linter.unusedSimpArgs false
open Go.RowKit Go.Lib Go.Proofs.YtfbocehdhmpnaaaDoor.Print Go.Proofs.YtfbocehdhmpnaaaDoor.Spec Go.Proofs.YtfbocehdhmpnaaaDoor.Aux Go.Proofs.YtfbocehdhmpnaaaDoorW.PrintWords Go.Proofs.YtfbocehdhmpnaaaDoorW.PrintLast Go.Proofs.YtfbocehdhmpnaaaDoorW.PrintMore

theorem i64_wf_ {n : Int} (h : (Lit.int .i64 n).wf = true) : -9223372036854775808 ≤ n ∧ n ≤ 9223372036854775807 := by
  simp [Lit.wf, IntKind.min, IntKind.max, IntKind.signed, IntKind.bits] at h
  omega
theorem DigitReads : sequiturlaw02_DigitReads.Pure := by
  intro s m hs hm
  refine Ev.rounds (g := fun k => sequiturlaw02_DigitReads.f k s m) ?_
  unfold sequiturlaw02_DigitReads.f
  by_cases h : (s.size : Int) > 300
  · exact Ev.pos h (Ev.bind alive_ev (Ev.now _))
  · refine Ev.neg h (Ev.bind (read_ev s (by omega)) (Ev.bind (refRead_ev s (by unfold maxLen; omega)) (Ev.bind (nat_ev s m (by omega)) (Ev.bind (refNat_ev s m (by unfold maxLen; omega)) ?_))))
    exact Ev.pos rfl (Ev.pos rfl (Ev.pos rfl (Ev.pos rfl (Ev.bind alive_ev (Ev.now _)))))
end Go.Proofs.YtfbocehdhmpnaaaDoor.Pure
