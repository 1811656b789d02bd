/-
  Terms in their room, no program in sight: the sort of a term, or where it is wrong: what the document's answer reckons is what the plain functions say.
-/
import Derived.Test.YtjmbdejejlcklaaDoorPureTerm
-- NEEDS sequiturbase_Size term_Right well_Within
import Derived.Test.YtjmbdejejlcklaaDoorPrint1
import Derived.Test.YtjmbdejejlcklaaDoorPrint4
namespace Go.Proofs.YtjmbdejejlcklaaDoor.Pure
set_option linter.unusedVariables false
set_option linter.unusedSimpArgs false
open Go.RowKit Go.Proofs.YtjmbdejejlcklaaDoor.Print Go.Proofs.YtjmbdejejlcklaaDoor.Spec Go.Proofs.YtjmbdejejlcklaaDoor.Aux Go.Proofs.YtjmbdejejlcklaaDoorW.PrintWords Go.Proofs.YtjmbdejejlcklaaDoorW.PrintLast Go.Proofs.YtjmbdejejlcklaaDoorW.PrintMore

theorem var_rd (l : List S65) (i : Nat) (h : i < l.length) : rd_T65 l (i : Int) = l[i] := by
  unfold rd_T65
  rw [Int.toNat_natCast, List.getD_eq_getElem?_getD, List.getElem?_eq_getElem h]; rfl
theorem fun_rd (l : List S63) (i : Nat) (h : i < l.length) : rd_T63 l (i : Int) = l[i] := by
  unfold rd_T63
  rw [Int.toNat_natCast, List.getD_eq_getElem?_getD, List.getElem?_eq_getElem h]; rfl
theorem rsort_ev (s : ByteArray) (l : List S65) (hl : l.length ≤ maxLen) : ∀ (d i : Nat), i + d = l.length → Ev (fun k => sequiturref13_Sort.l0 k l s (i : Int)) (sortL (l.drop i) s)
  | 0, i, h => by
    refine Ev.step (f := fun _ => some _) (fun k => ?_) (Ev.now _)
    simp only [sequiturref13_Sort.l0]
    rw [if_neg (by omega), List.drop_of_length_le (by omega)]
    rfl
  | d + 1, i, h => by
    unfold maxLen at hl
    have hlt : i < l.length := by omega
    have ih := rsort_ev s l (by unfold maxLen; omega) d (i + 1) (by omega)
    rw [List.drop_eq_getElem_cons hlt, sortL]
    by_cases e : (l[i]).f0.toList = s.toList
    · rw [if_pos (by simpa using e)]
      refine Ev.step (f := fun _ => some _) (fun k => ?_) (Ev.now _)
      simp only [sequiturref13_Sort.l0]
      rw [if_pos (by omega), if_pos (by omega), var_rd l i hlt, if_pos e]
    · rw [if_neg (by simpa using e)]
      refine Ev.step (fun k => ?_) ih
      simp only [sequiturref13_Sort.l0]
      rw [if_pos (by omega), if_pos (by omega), var_rd l i hlt, if_neg e, wrap_succ i (by omega)]
/-- A term's own answer, its parts' sorts given. -/
def ownW (funs : List S63) (vars : List S65) (binders : List ByteArray) (op : Int) (nm : ByteArray) (nu : Int) (way : List Int) (has : List ByteArray) : ByteArray × List Int × Int :=
  if op = 1 then (if (sortL vars nm).2 = true then ((sortL vars nm).1, [], 0) else (⟨#[]⟩, way, 10)) else
  if op = 2 then (if (binders.length : Int) ≤ nu then (⟨#[]⟩, way, 13) else (binders.getD (binders.length - 1 - nu.toNat) ⟨#[]⟩, [], 0)) else
  if op = 3 then applyR way (findL funs nm).1 (kindB (findL funs nm) false) has else
  match askL has (List.replicate has.length intS) 0 with
  | some i => (⟨#[]⟩, (askR way 0 (some i)).1, 11)
  | none => (intS, [], 0)
/-- A term's answer, its parts' answers given. -/
def tailW (funs : List S63) (vars : List S65) (binders : List ByteArray) (op : Int) (nm : ByteArray) (nu : Int) (way : List Int) (r : List ByteArray × List Int × Int) : ByteArray × List Int × Int :=
  if r.2.2 ≠ 0 then (⟨#[]⟩, r.2.1, r.2.2) else ownW funs vars binders op nm nu way r.1
theorem wTerm_eq (funs : List S63) (vars : List S65) (binders : List ByteArray) (op : Int) (nm : ByteArray) (nu : Int) (l : List S29) (way : List Int) :
    wTerm funs vars binders ⟨op, nm, nu, l⟩ way = tailW funs vars binders op nm nu way (wAll funs vars binders l way 0 []) := by
  rw [wTerm]
  rfl
/-- A way put ahead. -/
def ahd {α : Type} (way : List Int) (r : α × List Int × Int) : α × List Int × Int := (r.1, if r.2.2 = 0 then [] else way ++ r.2.1, r.2.2)
theorem ahd_zero {α : Type} (way : List Int) (s : α) (p : List Int) : ahd way (s, p, (0 : Int)) = (s, [], 0) := rfl
theorem ahd_ne {α : Type} (way : List Int) (s : α) (p : List Int) (e : Int) (h : e ≠ 0) : ahd way (s, p, e) = (s, way ++ p, e) := by
  unfold ahd
  simp [h]
theorem own_ahd (funs : List S63) (vars : List S65) (binders : List ByteArray) (op : Int) (nm : ByteArray) (nu : Int) (way : List Int) (has : List ByteArray) :
    ownW funs vars binders op nm nu way has = ahd way (ownW funs vars binders op nm nu [] has) := by
  unfold ownW
  by_cases h1 : op = 1
  · rw [if_pos h1, if_pos h1]
    by_cases hs : (sortL vars nm).2 = true
    · rw [if_pos hs, if_pos hs]; rfl
    · rw [if_neg hs, if_neg hs, ahd_ne _ _ _ _ (by decide), List.append_nil]
  · rw [if_neg h1, if_neg h1]
    by_cases h2 : op = 2
    · rw [if_pos h2, if_pos h2]
      by_cases hb : (binders.length : Int) ≤ nu
      · rw [if_pos hb, if_pos hb, ahd_ne _ _ _ _ (by decide), List.append_nil]
      · rw [if_neg hb, if_neg hb]; rfl
    · rw [if_neg h2, if_neg h2]
      by_cases h3 : op = 3
      · rw [if_pos h3, if_pos h3]
        unfold applyR
        by_cases ho : kindB (findL funs nm) false = false
        · rw [if_pos ho, if_pos ho, ahd_ne _ _ _ _ (by decide), List.append_nil]
        · rw [if_neg ho, if_neg ho]
          by_cases hn : (findL funs nm).1.f1.length ≠ has.length
          · rw [if_pos hn, if_pos hn, ahd_ne _ _ _ _ (by decide), List.append_nil]
          · rw [if_neg hn, if_neg hn]
            cases askL has (findL funs nm).1.f1 0 with
            | none => rfl
            | some j => rfl
      · rw [if_neg h3, if_neg h3]
        cases askL has (List.replicate has.length intS) 0 with
        | none => rfl
        | some j => rfl
theorem tail_ahd (funs : List S63) (vars : List S65) (binders : List ByteArray) (op : Int) (nm : ByteArray) (nu : Int) (way : List Int) (r : List ByteArray × List Int × Int) :
    tailW funs vars binders op nm nu way (ahd way r) = ahd way (tailW funs vars binders op nm nu [] r) := by
  obtain ⟨s, p, e⟩ := r
  unfold tailW
  by_cases h0 : e = 0
  · subst h0
    exact own_ahd funs vars binders op nm nu way s
  · rw [ahd_ne _ _ _ _ h0, if_pos h0, if_pos h0, ahd_ne _ _ _ _ h0]
theorem wAll_ahd (funs : List S63) (vars : List S65) (binders : List ByteArray) (way : List Int) : ∀ (l : List S29), (∀ y ∈ l, ∀ w : List Int, wTerm funs vars binders y w = ahd w (wTerm funs vars binders y [])) → ∀ (i : Nat) (acc : List ByteArray), wAll funs vars binders l way i acc = ahd way (wAll funs vars binders l [] i acc)
  | [], _, i, acc => by simp [wAll, ahd]
  | t :: l, H, i, acc => by
    have h1 := H t List.mem_cons_self (way ++ [(i : Int)])
    have h2 := H t List.mem_cons_self ([] ++ [(i : Int)])
    have ih := wAll_ahd funs vars binders way l (fun y hy => H y (List.mem_cons_of_mem _ hy))
    rw [wAll, wAll]
    by_cases h0 : (wTerm funs vars binders t []).2.2 = 0
    · rw [if_neg (by rw [h1]; simpa [ahd] using h0), if_neg (by rw [h2]; simpa [ahd] using h0), ih, h1, h2]
      rfl
    · rw [if_pos (by rw [h1]; simpa [ahd] using h0), if_pos (by rw [h2]; simpa [ahd] using h0), h1, h2]
      simp [ahd, h0]
theorem wTerm_ahd (funs : List S63) (vars : List S65) (binders : List ByteArray) : ∀ (d : Nat) (x : S29), SizeOf.sizeOf x ≤ d → ∀ way : List Int, wTerm funs vars binders x way = ahd way (wTerm funs vars binders x [])
  | 0, x, hd, _ => by cases x; simp at hd
  | d + 1, x, hd, way => by
    obtain ⟨op, nm, nu, l⟩ := x
    have H : ∀ y ∈ l, ∀ w : List Int, wTerm funs vars binders y w = ahd w (wTerm funs vars binders y []) := fun y hy w => by
      have h1 := List.sizeOf_lt_of_mem hy
      simp at hd
      exact wTerm_ahd funs vars binders d y (by omega) w
    rw [wTerm_eq, wTerm_eq, wAll_ahd funs vars binders way l H, tail_ahd]
theorem own_way (funs : List S63) (vars : List S65) (binders : List ByteArray) (op : Int) (nm : ByteArray) (nu : Int) (has : List ByteArray) :
    (ownW funs vars binders op nm nu [] has).2.1.length ≤ 1 := by
  unfold ownW
  by_cases h1 : op = 1
  · rw [if_pos h1]
    split <;> exact Nat.zero_le _
  · rw [if_neg h1]
    by_cases h2 : op = 2
    · rw [if_pos h2]
      split <;> exact Nat.zero_le _
    · rw [if_neg h2]
      by_cases h3 : op = 3
      · rw [if_pos h3]
        unfold applyR
        split
        · exact Nat.zero_le _
        · split
          · exact Nat.zero_le _
          · split
            · exact Nat.le_refl _
            · exact Nat.zero_le _
      · rw [if_neg h3]
        split
        · exact Nat.le_refl _
        · exact Nat.zero_le _
theorem tail_way (funs : List S63) (vars : List S65) (binders : List ByteArray) (op : Int) (nm : ByteArray) (nu : Int) (r : List ByteArray × List Int × Int) :
    (tailW funs vars binders op nm nu [] r).2.1.length ≤ max 1 r.2.1.length := by
  have := own_way funs vars binders op nm nu r.1
  unfold tailW
  by_cases h0 : r.2.2 = 0
  · rw [if_neg (by simpa using h0)]
    omega
  · rw [if_pos h0]
    dsimp only
    omega
theorem wAll_way (funs : List S63) (vars : List S65) (binders : List ByteArray) : ∀ (l : List S29), (∀ y ∈ l, (wTerm funs vars binders y []).2.1.length ≤ depT y) → ∀ (i : Nat) (acc : List ByteArray), (wAll funs vars binders l [] i acc).2.1.length ≤ depL l + 1
  | [], _, i, acc => by simp [wAll]
  | t :: l, H, i, acc => by
    have h1 := wTerm_ahd funs vars binders _ t (Nat.le_refl _) ([] ++ [(i : Int)])
    have h2 := H t List.mem_cons_self
    have ih := wAll_way funs vars binders l (fun y hy => H y (List.mem_cons_of_mem _ hy))
    rw [wAll, depL]
    split
    · rw [h1]
      simp only [ahd]
      split <;> simp
      omega
    · have := ih (i + 1) (acc ++ [(wTerm funs vars binders t ([] ++ [(i : Int)])).1])
      omega
theorem wTerm_way (funs : List S63) (vars : List S65) (binders : List ByteArray) : ∀ (d : Nat) (x : S29), SizeOf.sizeOf x ≤ d → (wTerm funs vars binders x []).2.1.length ≤ depT x
  | 0, x, hd => by cases x; simp at hd
  | d + 1, x, hd => by
    obtain ⟨op, nm, nu, l⟩ := x
    have H : ∀ y ∈ l, (wTerm funs vars binders y []).2.1.length ≤ depT y := fun y hy => by
      have h1 := List.sizeOf_lt_of_mem hy
      simp at hd
      exact wTerm_way funs vars binders d y (by omega)
    have h1 := wAll_way funs vars binders l H 0 []
    have h2 := tail_way funs vars binders op nm nu (wAll funs vars binders l [] 0 [])
    rw [wTerm_eq, depT_eq]
    dsimp only
    omega
theorem rightT_ok {x : S29} (h : rightT x = 0) : okT x ∧ depT x ≤ 64 := by
  unfold rightT at h
  split at h
  · cases h
  · split at h
    · cases h
    · exact ⟨firstE_ok _ h, by omega⟩
theorem within_way (funs : List S63) (vars : List S65) (binders : List ByteArray) (x : S29) : (withinR funs vars binders x).2.1.length ≤ 64 := by
  unfold withinR
  by_cases h : rightT x = 0
  · rw [if_neg (by simpa using h)]
    have := wTerm_way funs vars binders _ x (Nat.le_refl _)
    have := (rightT_ok h).2
    omega
  · rw [if_pos h]
    simp
/-- Rows of numbers that are equal. -/
theorem ints_ev (l : List Int) (hl : l.length ≤ maxLen) : Ev (fun k => sequiturbase_Ints.f k l l) true := by
  unfold maxLen at hl
  have loop : ∀ (e i : Nat), i + e = l.length → Ev (fun k => sequiturbase_Ints.l0 k l l (i : Int)) true := by
    intro e
    induction e with
    | zero =>
      intro i hi
      refine Ev.step (f := fun _ => some _) (fun k => ?_) (Ev.now _)
      simp only [sequiturbase_Ints.l0]
      rw [if_neg (by omega)]
    | succ e ih =>
      intro i hi
      refine Ev.step (fun k => ?_) (ih (i + 1) (by omega))
      simp only [sequiturbase_Ints.l0]
      rw [if_pos (by omega), if_pos (by omega), if_pos (by omega), if_pos trivial, wrap_succ i (by omega)]
  unfold sequiturbase_Ints.f
  exact Ev.pos rfl (loop l.length 0 (by omega))
/-- Whether the things are few: there is an answer. -/
theorem few_ev (sorts : List ByteArray) (funs : List S63) (vars : List S65) (hf : funs.length ≤ maxLen) : ∃ b, Ev (fun k => sequiturlaw13_Few.f k sorts funs vars) b := by
  unfold maxLen at hf
  have loop : ∀ (e i : Nat), i + e = funs.length → ∀ x : Int, ∃ b, Ev (fun k => sequiturlaw13_Few.l0 k x (i : Int) sorts funs) b := by
    intro e
    induction e with
    | zero =>
      intro i hi x
      refine ⟨_, Ev.step (f := fun _ => some (decide (x ≤ 400))) (fun k => ?_) (Ev.now _)⟩
      simp only [sequiturlaw13_Few.l0]
      rw [if_neg (by omega)]
    | succ e ih =>
      intro i hi x
      by_cases hx : x ≤ 400
      · obtain ⟨b, hb⟩ := ih (i + 1) (by omega) (wrap64 (x + (((rd_T63 funs (i : Int)).f1).length : Int)))
        refine ⟨b, Ev.step (fun k => ?_) hb⟩
        simp only [sequiturlaw13_Few.l0]
        rw [if_pos (by omega), if_pos hx, if_pos (by omega), wrap_succ i (by omega)]
      · refine ⟨_, Ev.step (f := fun _ => some (decide (x ≤ 400))) (fun k => ?_) (Ev.now _)⟩
        simp only [sequiturlaw13_Few.l0]
        rw [if_pos (by omega), if_neg hx]
  exact loop funs.length 0 (by omega) _
theorem lenT_top {op : Int} {nm : ByteArray} {nu : Int} {l : List S29} (h : l.length ≤ maxLen ∧ ∀ x0 ∈ l, G29 x0) : lenT ⟨op, nm, nu, l⟩ := by
  rw [lenT_eq, lenL_iff]
  have h1 := h.1
  unfold maxLen at h1
  exact ⟨by dsimp only; omega, fun i hi => lenT_G _ _ (Nat.le_refl _) (h.2 _ (List.getElem_mem hi))⟩
end Go.Proofs.YtjmbdejejlcklaaDoor.Pure
