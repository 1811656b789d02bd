/-
  Proved: any text with any number behind, and any text taken apart, are what the document says: for texts of at most 300 bytes, any number.
-/
import Derived.Test.YtfbocehdhmpnaaaDoorPureDigLaw
import Derived.Test.YtfbocehdhmpnaaaDoorPrint10
namespace Go.Proofs.YtfbocehdhmpnaaaDoor.Pure
set_option linter.unusedVariables false
set_option linter.unusedSimpArgs false
open Go.RowKit Go.Lib Go.Proofs.YtfbocehdhmpnaaaDoor.Print Go.Proofs.YtfbocehdhmpnaaaDoor.Spec Go.Proofs.YtfbocehdhmpnaaaDoor.Aux Go.Proofs.YtfbocehdhmpnaaaDoorW.PrintWords Go.Proofs.YtfbocehdhmpnaaaDoorW.PrintLast Go.Proofs.YtfbocehdhmpnaaaDoorW.PrintMore

theorem i64_wf_ {n : Int} (h : (Lit.int .i64 n).wf = true) : -9223372036854775808 ≤ n ∧ n ≤ 9223372036854775807 := by
  simp [Lit.wf, IntKind.min, IntKind.max, IntKind.signed, IntKind.bits] at h
  omega
theorem DigitParts : sequiturlaw02_DigitParts.Pure := by
  intro s n hs hn
  obtain ⟨h0, h1⟩ := i64_wf_ hn
  refine Ev.rounds (g := fun k => sequiturlaw02_DigitParts.f k s n) ?_
  unfold sequiturlaw02_DigitParts.f
  by_cases h : (s.size : Int) > 300
  · exact Ev.pos h (Ev.bind alive_ev (Ev.now _))
  · refine Ev.neg h (Ev.bind (part_ev s (by omega)) (Ev.bind (refPart_ev s (by unfold maxLen; omega)) ?_))
    rw [index_f s n (by omega) h1]
    simp only [Option.bind_some]
    refine Ev.bind (refIndex_ev s n (by omega) h1) ?_
    exact Ev.pos (by simp) (Ev.pos (by simp) (Ev.pos (by simp) (Ev.pos (by simp) (Ev.bind alive_ev (Ev.now _)))))
end Go.Proofs.YtfbocehdhmpnaaaDoor.Pure
