/-
  Proved: the digits of any number are what the document says: for any number of 64 bits.
-/
import Derived.Test.YtfbocehdhmpnaaaDoorPureDigLaw
import Derived.Test.YtfbocehdhmpnaaaDoorPrint4
namespace Go.Proofs.YtfbocehdhmpnaaaDoor.Pure
set_option linter.unusedVariables false
set_option linter.unusedSimpArgs false
open Go.RowKit Go.Lib Go.Proofs.YtfbocehdhmpnaaaDoor.Print Go.Proofs.YtfbocehdhmpnaaaDoor.Spec Go.Proofs.YtfbocehdhmpnaaaDoor.Aux Go.Proofs.YtfbocehdhmpnaaaDoorW.PrintWords Go.Proofs.YtfbocehdhmpnaaaDoorW.PrintLast Go.Proofs.YtfbocehdhmpnaaaDoorW.PrintMore

theorem i64_wf {n : Int} (h : (Lit.int .i64 n).wf = true) : -9223372036854775808 ≤ n ∧ n ≤ 9223372036854775807 := by
  simp [Lit.wf, IntKind.min, IntKind.max, IntKind.signed, IntKind.bits] at h
  omega
theorem DigitTexts : sequiturlaw02_DigitTexts.Pure := by
  intro n hn
  obtain ⟨h0, h1⟩ := i64_wf hn
  refine Ev.rounds (g := fun k => sequiturlaw02_DigitTexts.f k n) ?_
  unfold sequiturlaw02_DigitTexts.f
  rw [text_f n h0 h1]
  simp only [Option.bind_some]
  exact Ev.bind (refText_ev n h0 h1) (Ev.pos rfl (Ev.bind alive_ev (Ev.now _)))
end Go.Proofs.YtfbocehdhmpnaaaDoor.Pure
