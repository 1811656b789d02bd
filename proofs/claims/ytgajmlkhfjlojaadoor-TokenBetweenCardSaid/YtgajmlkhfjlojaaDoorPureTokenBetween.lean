/-
  Proved: tokens stand one behind the other, each as it is written, and what lies between is blanks: for texts of at most 600 bytes.
-/
import Derived.Test.YtgajmlkhfjlojaaDoorPureToken2
import Derived.Test.YtgajmlkhfjlojaaDoorPrint3
import Derived.Test.YtgajmlkhfjlojaaDoorPrint4
import Derived.Test.YtgajmlkhfjlojaaDoorPrint12
namespace Go.Proofs.YtgajmlkhfjlojaaDoor.Pure
set_option linter.unusedVariables false
set_option linter.unusedSimpArgs false
open Go.RowKit Go.Proofs.YtgajmlkhfjlojaaDoor.Print Go.Proofs.YtgajmlkhfjlojaaDoor.Spec Go.Proofs.YtgajmlkhfjlojaaDoor.Aux Go.Proofs.YtgajmlkhfjlojaaDoorW.PrintWords Go.Proofs.YtgajmlkhfjlojaaDoorW.PrintLast Go.Proofs.YtgajmlkhfjlojaaDoorW.PrintMore

/-- Tokens stand one behind the other in s, from e on, with blanks between. -/
def Btw (s : List UInt8) : Nat → List S30 → Prop
  | e, [] => e + blankG false (s.drop e) = s.length
  | e, t :: ts => ∃ p : Nat, t.f2 = (p : Int) ∧ p = e + blankG false (s.drop e) ∧ 1 ≤ t.f1.size ∧ p + t.f1.size ≤ s.length ∧ t.f1.data.toList = (s.drop p).take t.f1.size ∧ Btw s (p + t.f1.size) ts
theorem tokS_place (c : Int) (l : List UInt8) (p : Int) (h : (tokS c l p).2.2.2 = 0) : (tokS c l p).2.2.1 = p := by
  unfold tokS at h ⊢
  by_cases h1 : letterI c = true
  · simp only [if_pos h1] at h ⊢
    by_cases h2 : runL innerI l > 32
    · rw [if_pos h2] at h; exact absurd h (by decide)
    · rw [if_neg h2]
  · simp only [if_neg h1] at h ⊢
    by_cases h2 : digitI c = true
    · rw [if_pos h2]
    · simp only [if_neg h2] at h ⊢
      by_cases h3 : signS l = (⟨#[]⟩ : ByteArray)
      · rw [if_pos h3] at h; exact absurd h (by decide)
      · rw [if_neg h3]
theorem ofGo_between (s : List UInt8) : ∀ (n p e : Nat) (acc : List S30), s.length - p ≤ n → p ≤ s.length → p = e + blankG false (s.drop e) → (ofGo n (s.drop p) p acc).2.2 = 0 → ∃ ts, (ofGo n (s.drop p) p acc).1 = acc ++ ts ∧ Btw s e ts
  | 0, p, e, acc, h1, h2, h3, h4 => ⟨[], by simp [ofGo], by unfold Btw; omega⟩
  | n + 1, p, e, acc, h1, h2, h3, h4 => by
    by_cases hp : p < s.length
    · have hc := List.drop_eq_getElem_cons hp
      generalize s[p] = c at hc
      have hl : (s.drop (p + 1)).length = s.length - p - 1 := by rw [List.length_drop]; omega
      have hsz := tokS_size c (s.drop (p + 1)) p
      have hpl := tokS_place (b2i c) (c :: s.drop (p + 1)) p
      rw [hc] at h4 ⊢
      rw [ofGo] at h4 ⊢
      generalize tokS (b2i c) (c :: s.drop (p + 1)) p = r at h4 hsz hpl ⊢
      rw [← hc] at h4 hsz ⊢
      by_cases he : r.2.2.2 = 0
      · obtain ⟨z1, z2, z3⟩ := hsz he
        have z4 := hpl he
        rw [if_pos he] at h4 ⊢
        rw [List.drop_drop] at h4 ⊢
        have hbl := blankG_le (s.drop (p + r.2.1.size)) false
        rw [List.length_drop] at hbl
        rw [List.drop_drop] at h4 ⊢
        obtain ⟨ts, e1, e2⟩ := ofGo_between s n (p + (r.2.1.size + blankG false (s.drop (p + r.2.1.size)))) (p + r.2.1.size) (acc ++ [⟨r.1, r.2.1, r.2.2.1⟩]) (by omega) (by omega) (by omega) h4
        exact ⟨⟨r.1, r.2.1, r.2.2.1⟩ :: ts, by rw [e1]; simp, p, z4, h3, z1, (show p + r.2.1.size ≤ s.length by omega), z3, e2⟩
      · rw [if_neg he] at h4
        exact absurd h4 he
    · rw [List.drop_eq_nil_of_le (by omega)] at h4 ⊢
      exact ⟨[], by simp [ofGo], by unfold Btw; omega⟩
theorem btw_loop (s : ByteArray) (hs : s.size ≤ 600) (l : List S30) (hl : l.length ≤ 1000000) : ∀ (d i e : Nat), i + d = l.length → e ≤ s.size → Btw s.data.toList e (l.drop i) → Ev (fun k => sequiturlaw03_TokenBetween.l0 k s e l l.length i) true
  | 0, i, e, h, he, hb => by
    have hz := size_list s
    rw [List.drop_eq_nil_of_le (by omega)] at hb
    unfold Btw at hb
    refine Ev.step (f := fun k => (sequiturref03_Blank.f k s e).bind fun t => some (t == (s.size : Int))) (fun k => ?_) (Ev.bind (refBlank_ev s (by unfold maxLen; omega) e he) (Ev.some_ ?_))
    · simp only [sequiturlaw03_TokenBetween.l0]; rw [if_neg (by omega)]
    · rw [beq_iff_eq]; omega
  | d + 1, i, e, h, he, hb => by
    have hz := size_list s
    rw [List.drop_eq_getElem_cons (show i < l.length by omega)] at hb
    have hrd := rd30_at l i (by omega)
    generalize l[i] = t at hb hrd
    obtain ⟨p, b1, b2, b3, b4, b5, b6⟩ := hb
    have ih := btw_loop s hs l hl d (i + 1) (p + t.f1.size) (by omega) (by omega) b6
    have hj : Ev (fun k => sequiturlaw03_TokenBetween.j1 k s l l.length i false t.f0 t.f1 t.f2) true := by
      refine Ev.step (fun k => ?_) ih
      simp only [sequiturlaw03_TokenBetween.j1, Bool.false_eq_true, if_false]
      rw [b1, wrap_add _ _ (by omega), wrap_succ i (by omega)]
    have ht : ¬ t.f1.toList = ([] : List UInt8) := by
      rw [Lib.toList_data]
      intro h0
      have := size_list t.f1
      rw [h0] at this; simp at this; omega
    have hx : (s.extract p (p + t.f1.size)).toList = t.f1.toList := by
      rw [Lib.toList_data, Lib.toList_data, extract_list, b5, Nat.add_sub_cancel_left]
    refine Ev.step (f := fun k => (sequiturref03_Blank.f k s e).bind fun u => sequiturlaw03_TokenBetween.j1 k s l l.length i (u != t.f2) t.f0 t.f1 t.f2) (fun k => ?_) ?_
    · simp only [sequiturlaw03_TokenBetween.l0]
      rw [hrd, if_pos (by omega), if_pos (by omega), if_pos (by omega)]
      rw [if_neg (by omega), if_neg (by omega), if_neg ht, b1, wrap_in ((s.size : Int) - (p : Int)) (by omega) (by omega), if_neg (by omega), if_pos (by omega), wrap_add _ _ (by omega), if_pos (by omega), if_pos (by omega), Int.toNat_natCast, Int.toNat_natCast, if_pos hx]
    · refine Ev.bind (refBlank_ev s (by unfold maxLen; omega) e he) ?_
      have : ((((e + blankG false (s.data.toList.drop e) : Nat) : Int)) != t.f2) = false := by rw [b1, b2]; simp
      rw [this]
      exact hj
theorem TokenBetween : sequiturlaw03_TokenBetween.Pure := by
  intro s hs
  have hz := size_list s
  refine Ev.rounds (g := fun k => sequiturlaw03_TokenBetween.f k s) ?_
  unfold sequiturlaw03_TokenBetween.f
  refine Ev.bind alive_ev (Ev.pos rfl ?_)
  by_cases h : (s.size : Int) > 600
  · exact Ev.pos h (Ev.now _)
  · refine Ev.neg h (Ev.bind (of_ev s) ?_)
    by_cases he : (ofS s).2.2 = 0
    · refine Ev.pos he ?_
      have hle := blankG_le s.data.toList false
      have hof : ofS s = ofGo s.size (s.data.toList.drop (blankG false s.data.toList)) (blankG false s.data.toList) [] := by
        unfold ofS
        rw [if_neg (by omega)]
      rw [hof] at he ⊢
      obtain ⟨ts, e1, e2⟩ := ofGo_between s.data.toList s.size (blankG false s.data.toList) 0 [] (by omega) (by omega) (by simp) he
      rw [e1, List.nil_append]
      have hlen : ts.length ≤ 1000000 := by
        have h2 : ∀ (ts : List S30) (e : Nat), e ≤ s.data.toList.length → Btw s.data.toList e ts → ts.length + e ≤ s.data.toList.length := by
          intro ts
          induction ts with
          | nil => intro e he _; simpa using he
          | cons t ts ih =>
            rintro e he ⟨p, b1, b2, b3, b4, b5, b6⟩
            have := ih _ b4 b6
            rw [List.length_cons]; omega
        have := h2 ts 0 (by omega) e2
        omega
      exact btw_loop s (by omega) ts hlen ts.length 0 0 (by omega) (by omega) e2
    · exact Ev.neg he (Ev.now _)
end Go.Proofs.YtgajmlkhfjlojaaDoor.Pure
