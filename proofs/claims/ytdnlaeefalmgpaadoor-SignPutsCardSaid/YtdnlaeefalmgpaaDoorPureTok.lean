/-
  What is a name, and what is a word: the program's functions and the reference's tell the same.
-/
import Derived.Test.YtdnlaeefalmgpaaDoorPureBase
import Derived.Test.YtdnlaeefalmgpaaDoorPrint1
import Derived.Test.YtdnlaeefalmgpaaDoorPrint3
namespace Go.Proofs.YtdnlaeefalmgpaaDoor.Pure
set_option linter.unusedVariables false
set_option linter.unusedSimpArgs false
open Go.RowKit Go.Proofs.YtdnlaeefalmgpaaDoor.Print Go.Proofs.YtdnlaeefalmgpaaDoor.Spec Go.Proofs.YtdnlaeefalmgpaaDoor.Aux Go.Proofs.YtdnlaeefalmgpaaDoorW.PrintWords Go.Proofs.YtdnlaeefalmgpaaDoorW.PrintLast Go.Proofs.YtdnlaeefalmgpaaDoorW.PrintMore

theorem has_loop (l : List ByteArray) (s : ByteArray) (hl : l.length ≤ maxLen) : ∀ (d i : Nat), i + d = l.length → Ev (fun k => sequiturbase_Has.l0 k l s i) (hasB (l.drop i) s)
  | 0, i, h => by
    refine Ev.step (f := fun _ => some false) (fun k => ?_) (Ev.some_ ?_)
    · simp only [sequiturbase_Has.l0]; rw [if_neg (by omega)]
    · rw [List.drop_eq_nil_of_le (by omega)]; rfl
  | d + 1, i, h => by
    unfold maxLen at hl
    have ih := has_loop l s hl d (i + 1) (by omega)
    refine Ev.step (f := fun k => if l[i] = s then some true else sequiturbase_Has.l0 k l s ((i + 1 : Nat) : Int)) (fun k => ?_) ?_
    · simp only [sequiturbase_Has.l0]
      rw [if_pos (by omega), if_pos (by omega), rd_at l i (by omega), wrap_succ i (by omega)]
      simp only [ba_eq]
    · rw [List.drop_eq_getElem_cons (show i < l.length by omega), hasB_cons]
      by_cases e : l[i] = s
      · exact Ev.pos e (Ev.some_ (by simp [e]))
      · exact Ev.neg e (Ev.get ih (by simp [e]))
theorem has_ev (l : List ByteArray) (s : ByteArray) (hl : l.length ≤ maxLen) : Ev (fun k => sequiturbase_Has.f k l s) (hasB l s) := has_loop l s hl l.length 0 (by omega)

/-- One byte, as the reference asks it. -/
theorem name_round (s : ByteArray) (i : Nat) (k : Nat) (hi : i < s.size) (hs : s.size ≤ maxLen) :
    sequiturbase_Name.l0 (k + 1) s i = if letterI (bt s i) = true ∨ (i ≠ 0 ∧ innerI (bt s i) = true) then sequiturbase_Name.l0 k s ((i + 1 : Nat) : Int) else some false := by
  unfold maxLen at hs
  simp only [sequiturbase_Name.l0]
  rw [if_pos (by omega), if_pos (by omega), wrap_succ i (by omega)]
  have h0 : ((i : Int) = 0) ↔ (i = 0) := by omega
  simp only [ne_eq, h0]

theorem bt_list (s : ByteArray) (i : Nat) (h : i < s.data.toList.length) : bt s (i : Int) = b2i s.data.toList[i] := by
  have hz := size_list s
  unfold bt b2i
  rw [dif_pos (by omega)]; rfl
theorem name_loop (s : ByteArray) (hs : s.size ≤ maxLen) (h0 : 0 < s.size) : ∀ (d i : Nat), i + d = s.size → 0 < i → Ev (fun k => sequiturbase_Name.l0 k s i) (((s.data.toList.drop i).all fun c => innerI (b2i c)) && decide (s.size ≤ 32))
  | 0, i, h, hi => by
    have hz := size_list s
    refine Ev.step (f := fun _ => some (decide (s.size ≤ 32))) (fun k => ?_) (Ev.some_ ?_)
    · simp only [sequiturbase_Name.l0]; rw [if_neg (by omega), if_pos (by omega)]
      congr 1
      rw [decide_eq_decide]; omega
    · rw [List.drop_eq_nil_of_le (by omega)]; rfl
  | d + 1, i, h, hi => by
    have hz := size_list s
    have ih := name_loop s hs h0 d (i + 1) (by omega) (by omega)
    refine Ev.step (fun k => name_round s i k (by omega) hs) ?_
    rw [List.drop_eq_getElem_cons (show i < s.data.toList.length by omega), List.all_cons, bt_list s i (by omega)]
    generalize b2i (s.data.toList[i]'(by omega)) = c
    by_cases e : innerI c = true
    · exact Ev.pos (.inr ⟨by omega, e⟩) (Ev.get ih (by simp [e]))
    · have e' : innerI c = false := by simpa using e
      have l' : letterI c = false := by
        cases hl : letterI c
        · rfl
        · simp [innerI, hl] at e'
      exact Ev.neg (by simp [e', l']) (Ev.some_ (by simp [e']))
theorem name_ev (s : ByteArray) (hs : s.size ≤ maxLen) : Ev (fun k => sequiturbase_Name.f k s) (nameL s.data.toList) := by
  have hz := size_list s
  show Ev (fun k => sequiturbase_Name.l0 k s ((0 : Nat) : Int)) _
  by_cases h0 : 0 < s.size
  · refine Ev.step (fun k => name_round s 0 k h0 hs) ?_
    have hl := name_loop s hs h0 (s.size - 1) 1 (by omega) (by omega)
    obtain ⟨c, l, hcl⟩ : ∃ c l, s.data.toList = c :: l := List.exists_cons_of_length_pos (by omega)
    have hb : bt s ((0 : Nat) : Int) = b2i c := by
      rw [bt_list s 0 (by omega)]
      congr 1
      simp [hcl]
    rw [hb]
    rw [hcl] at hl hz ⊢
    simp only [List.drop_succ_cons, List.drop_zero, List.length_cons] at hl hz
    by_cases e : letterI (b2i c) = true
    · refine Ev.pos (.inl e) (Ev.get hl ?_)
      simp only [nameL, e, Bool.and_true]
      rw [Bool.and_comm]
      congr 1
      rw [decide_eq_decide]; omega
    · have e' : letterI (b2i c) = false := by simpa using e
      exact Ev.neg (by simp [e']) (Ev.some_ (by simp [nameL, e']))
  · refine Ev.step (f := fun _ => some false) (fun k => ?_) (Ev.some_ ?_)
    · simp only [sequiturbase_Name.l0]; rw [if_neg (by omega), if_neg (by omega)]
    · rw [List.eq_nil_of_length_eq_zero (l := s.data.toList) (by omega)]; rfl
theorem nameL_len : ∀ l : List UInt8, nameL l = true → 0 < l.length ∧ l.length ≤ 32
  | [], h => by simp [nameL] at h
  | c :: l, h => by
    simp [nameL] at h ⊢
    omega
theorem nameL_size (s : ByteArray) (h : nameL s.data.toList = true) : 0 < s.size ∧ s.size ≤ 32 := by
  have hz := size_list s
  have := nameL_len _ h
  omega
end Go.Proofs.YtdnlaeefalmgpaaDoor.Pure
