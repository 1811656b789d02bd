/-
  What is a name, and what is a word: the program's functions and the reference's tell the same.
-/
import Derived.Test.YtdnlaeefalmgpaaDoorPureBase
import Derived.Test.YtdnlaeefalmgpaaDoorPrint1
namespace Go.Proofs.YtdnlaeefalmgpaaDoor.Pure
set_option linter.unusedVariables false
set_option linter.unusedSimpArgs false
open Go.RowKit Go.Proofs.YtdnlaeefalmgpaaDoor.Print Go.Proofs.YtdnlaeefalmgpaaDoor.Spec Go.Proofs.YtdnlaeefalmgpaaDoor.Aux Go.Proofs.YtdnlaeefalmgpaaDoorW.PrintWords Go.Proofs.YtdnlaeefalmgpaaDoorW.PrintLast Go.Proofs.YtdnlaeefalmgpaaDoorW.PrintMore

theorem bt_list (s : ByteArray) (i : Nat) (h : i < s.data.toList.length) : bt s (i : Int) = b2i s.data.toList[i] := by
  have hz := size_list s
  unfold bt b2i
  rw [dif_pos (by omega)]; rfl
theorem nameL_len : ∀ l : List UInt8, nameL l = true → 0 < l.length ∧ l.length ≤ 32
  | [], h => by simp [nameL] at h
  | c :: l, h => by
    simp [nameL] at h ⊢
    omega
theorem nameL_size (s : ByteArray) (h : nameL s.data.toList = true) : 0 < s.size ∧ s.size ≤ 32 := by
  have hz := size_list s
  have := nameL_len _ h
  omega
end Go.Proofs.YtdnlaeefalmgpaaDoor.Pure
