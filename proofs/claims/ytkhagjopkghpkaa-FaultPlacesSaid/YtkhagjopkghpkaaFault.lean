/-
  Texts of package fault's library calls: a text of one byte, the cut at a byte.
-/
import Derived.Test.YtkhagjopkghpkaaProg
import Derived.Test.YtkhagjopkghpkaaWMore
import Derived.Test.YtkhagjopkghpkaaWWords
import Derived.Test.YtkhagjopkghpkaaWLast
import Derived.Test.YtkhagjopkghpkaaSpec
import Derived.WalkKit
import Derived.Test.YtkhagjopkghpkaaShelf
namespace Go.Proofs.Ytkhagjopkghpkaa.Aux
set_option linter.unusedVariables false
set_option linter.unusedSimpArgs false
open Go.RowKit Go.Proofs.YtkhagjopkghpkaaW.PrintWords Go.Proofs.YtkhagjopkghpkaaW.PrintLast Go.Proofs.YtkhagjopkghpkaaW.PrintMore Go.Proofs.Ytkhagjopkghpkaa.Spec

theorem size_one (c : UInt8) : (⟨#[c]⟩ : ByteArray).size = 1 := rfl
theorem one_byte {a : ByteArray} (h : a.size = 1) : ∃ c, a = ⟨#[c]⟩ := by
  obtain ⟨l⟩ := a
  have hl : l.toList.length = 1 := by rw [Array.length_toList]; exact h
  obtain ⟨c, hc⟩ := List.length_eq_one_iff.1 hl
  refine ⟨c, ?_⟩
  congr 1
  exact Array.toList_inj.1 (by simpa using hc)
end Go.Proofs.Ytkhagjopkghpkaa.Aux
