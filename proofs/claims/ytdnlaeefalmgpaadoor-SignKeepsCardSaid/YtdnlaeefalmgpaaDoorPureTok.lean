/-
  What is a name, and what is a word: the program's functions and the reference's tell the same.
-/
import Derived.Test.YtdnlaeefalmgpaaDoorPureBase
import Derived.Test.YtdnlaeefalmgpaaDoorPrint1
import Derived.Test.YtdnlaeefalmgpaaDoorPrint2
namespace Go.Proofs.YtdnlaeefalmgpaaDoor.Pure
set_option linter.unusedVariables false
set_option linter.unusedSimpArgs false
open Go.RowKit Go.Proofs.YtdnlaeefalmgpaaDoor.Print Go.Proofs.YtdnlaeefalmgpaaDoor.Spec Go.Proofs.YtdnlaeefalmgpaaDoor.Aux Go.Proofs.YtdnlaeefalmgpaaDoorW.PrintWords Go.Proofs.YtdnlaeefalmgpaaDoorW.PrintLast Go.Proofs.YtdnlaeefalmgpaaDoorW.PrintMore

theorem has_loop (l : List ByteArray) (s : ByteArray) (hl : l.length ≤ maxLen) : ∀ (d i : Nat), i + d = l.length → Ev (fun k => sequiturbase_Has.l0 k l s i) (hasB (l.drop i) s)
  | 0, i, h => by
    refine Ev.step (f := fun _ => some false) (fun k => ?_) (Ev.some_ ?_)
    · simp only [sequiturbase_Has.l0]; rw [if_neg (by omega)]
    · rw [List.drop_eq_nil_of_le (by omega)]; rfl
  | d + 1, i, h => by
    unfold maxLen at hl
    have ih := has_loop l s hl d (i + 1) (by omega)
    refine Ev.step (f := fun k => if l[i] = s then some true else sequiturbase_Has.l0 k l s ((i + 1 : Nat) : Int)) (fun k => ?_) ?_
    · simp only [sequiturbase_Has.l0]
      rw [if_pos (by omega), if_pos (by omega), rd_at l i (by omega), wrap_succ i (by omega)]
      simp only [ba_eq]
    · rw [List.drop_eq_getElem_cons (show i < l.length by omega), hasB_cons]
      by_cases e : l[i] = s
      · exact Ev.pos e (Ev.some_ (by simp [e]))
      · exact Ev.neg e (Ev.get ih (by simp [e]))
theorem has_ev (l : List ByteArray) (s : ByteArray) (hl : l.length ≤ maxLen) : Ev (fun k => sequiturbase_Has.f k l s) (hasB l s) := has_loop l s hl l.length 0 (by omega)

theorem bt_list (s : ByteArray) (i : Nat) (h : i < s.data.toList.length) : bt s (i : Int) = b2i s.data.toList[i] := by
  have hz := size_list s
  unfold bt b2i
  rw [dif_pos (by omega)]; rfl
theorem nameL_len : ∀ l : List UInt8, nameL l = true → 0 < l.length ∧ l.length ≤ 32
  | [], h => by simp [nameL] at h
  | c :: l, h => by
    simp [nameL] at h ⊢
    omega
theorem nameL_size (s : ByteArray) (h : nameL s.data.toList = true) : 0 < s.size ∧ s.size ≤ 32 := by
  have hz := size_list s
  have := nameL_len _ h
  omega
end Go.Proofs.YtdnlaeefalmgpaaDoor.Pure
