-- own work: an evaluator of the program's code, and what it answers
import Derived.Test.YtjmbdejejlcklaaDoorR7
set_option maxRecDepth 100000
set_option linter.unusedVariables false
set_option linter.unusedSimpArgs false
namespace Go.Eng
open Go Go.Proofs
/-! ### ways lead to parts -/
def noT : Tm := .mk 0 noS 0 []
def leadsT : Tm → List Int → Bool
  | _, [] => true
  | t, k :: r => decide (0 ≤ k) && decide (k < t.l.length) && leadsT (t.l.getD k.toNat noT) r
def noC : Cl := .mk 0 noS noS [] []
def leadsC : Cl → List Int → Bool
  | _, [] => true
  | c, k :: r => decide (0 ≤ k) && decide (k < (c.ts.length : Int) + c.ss.length) && (if k < c.ts.length then leadsT (c.ts.getD k.toNat noT) r else leadsC (c.ss.getD (k - c.ts.length).toNat noC) r)
theorem askW_leads (frm : Int) : ∀ (i : Nat) (a b : List ByteArray), (askW [] frm i a b).1 = [] ∨ ∃ k : Nat, (askW [] frm i a b).1 = [frm + k] ∧ i ≤ k ∧ k < i + a.length
  | i, [], b => by simp [askW]
  | i, _ :: _, [] => by simp [askW]
  | i, h :: hs, w :: ws => by
    simp only [askW]
    split
    · rcases askW_leads frm (i + 1) hs ws with e | ⟨k, e, h1, h2⟩
      · exact .inl e
      · exact .inr ⟨k, e, by omega, by simp; omega⟩
    · exact .inr ⟨i, by simp, Nat.le_refl _, by simp⟩
theorem applyW_leads (f : Fu) (ok : Bool) (has : List ByteArray) : (applyW [] f ok has).2.1 = [] ∨ ∃ k : Nat, (applyW [] f ok has).2.1 = [(k : Int)] ∧ k < has.length := by
  unfold applyW
  split
  · exact .inl rfl
  · split
    · exact .inl rfl
    · split
      · rcases askW_leads 0 0 has f.args with e | ⟨k, e, h1, h2⟩
        · exact .inl e
        · exact .inr ⟨k, by simpa using e, by omega⟩
      · exact .inl rfl
theorem ownW_leads (s : Sg) (vs : List Va) (bs : List ByteArray) (op : Int) (nm : ByteArray) (nu : Int) (has : List ByteArray) : (ownW s vs bs [] op nm nu has).2.1 = [] ∨ ∃ k : Nat, (ownW s vs bs [] op nm nu has).2.1 = [(k : Int)] ∧ k < has.length := by
  unfold ownW
  split
  · cases sortOf vs nm <;> exact .inl rfl
  · split
    · split <;> exact .inl rfl
    · split
      · exact applyW_leads _ _ has
      · split
        · rcases askW_leads 0 0 has (List.replicate has.length sInt) with e | ⟨k, e, h1, h2⟩
          · exact .inl e
          · exact .inr ⟨k, by simpa using e, by omega⟩
        · exact .inl rfl
theorem leadsT_one (t : Tm) (k : Nat) (h : k < t.l.length) : leadsT t [(k : Int)] = true := by
  simp only [leadsT]; simp; exact h
theorem preA_way (p : List Int) (x : Ans) (h : x.2.2 ≠ 0) : (preA p x).2.1 = p ++ x.2.1 := by unfold preA; rw [if_pos h]
theorem preA_way0 (p : List Int) (x : Ans) (h : ¬ x.2.2 ≠ 0) : preA p x = x := by unfold preA; rw [if_neg h]
theorem allW_leads (s : Sg) (vs : List Va) (bs : List ByteArray) (Q : Tm → List Int → Bool) : ∀ (l : List Tm) (i : Nat), (∀ x ∈ l, Q x (termW s vs bs [] x).2.1 = true) →
    (allW s vs bs [] i l).2.1 = [] ∨ ∃ (j : Nat) (x : Tm) (w : List Int), l[j]? = some x ∧ (allW s vs bs [] i l).2.1 = ((i + j : Nat) : Int) :: w ∧ Q x w = true
  | [], i, _ => .inl (by simp [allW])
  | x :: r, i, hx => by
    simp only [allW]
    rw [termW_one]
    by_cases h : (termW s vs bs [] x).2.2 ≠ 0
    · have h' : (preA [(i : Int)] (termW s vs bs [] x)).2.2 ≠ 0 := by unfold preA; rw [if_pos h]; exact h
      rw [if_pos h']
      exact .inr ⟨0, x, _, rfl, by rw [preA_way _ _ h]; rfl, hx x (by simp)⟩
    · rw [preA_way0 _ _ h, if_neg h]
      split
      · rcases allW_leads s vs bs Q r (i + 1) (fun y hy => hx y (by simp [hy])) with e | ⟨j, y, w, h1, h2, h3⟩
        · exact .inl e
        · exact .inr ⟨j + 1, y, w, by simpa using h1, by rw [h2]; congr 2; omega, h3⟩
      · exact .inl rfl
theorem termW_leads (s : Sg) (vs : List Va) (bs : List ByteArray) : ∀ (d : Nat) (t : Tm), SizeOf.sizeOf t ≤ d → leadsT t (termW s vs bs [] t).2.1 = true
  | 0, t, h => by cases t; simp at h
  | d + 1, t, h => by
    have hk := allW_leads s vs bs leadsT t.l 0 (fun x hx => termW_leads s vs bs d x (by have := Tm.lt hx; omega))
    have ho := ownW_leads s vs bs t.op t.nm t.nu (allW s vs bs [] 0 t.l).1
    have hok := fun (h : (allW s vs bs [] 0 t.l).2.2 = 0) => (allW_ok h).1
    rw [termW_eq]
    split
    · show leadsT t (allW s vs bs [] 0 t.l).2.1 = true
      rcases hk with e | ⟨j, x, w, h1, h2, h3⟩
      · rw [e]; rfl
      · rw [h2]
        have hj := (List.getElem?_eq_some_iff.1 h1).1
        simp only [leadsT, Nat.zero_add, Int.toNat_natCast, List.getD_eq_getElem?_getD, h1, Option.getD_some, h3, Bool.and_true, Bool.and_eq_true, decide_eq_true_eq]
        omega
    · rename_i h0
      have hl := hok (by simpa using h0)
      rcases ho with e | ⟨k, e, hk⟩
      · rw [e]; rfl
      · rw [e]; exact leadsT_one t k (by omega)
theorem lastW_leads (s : Sg) (op : Int) (nm : ByteArray) (has : List ByteArray) : (lastW s [] op nm has).1 = [] ∨ ∃ k : Nat, (lastW s [] op nm has).1 = [(k : Int)] ∧ k < has.length := by
  unfold lastW
  split
  · exact applyW_leads _ _ has
  · split
    · rcases askW_leads 0 0 has [sInt, sInt] with e | ⟨k, e, h1, h2⟩
      · exact .inl e
      · exact .inr ⟨k, by simpa using e, by omega⟩
    · split
      · rcases askW_leads 0 0 has [has.getD 0 noS, has.getD 0 noS] with e | ⟨k, e, h1, h2⟩
        · exact .inl e
        · exact .inr ⟨k, by simpa using e, by omega⟩
      · exact .inl rfl
theorem preW_way (p : List Int) (x : List Int × Int) (h : x.2 ≠ 0) : (preW p x).1 = p ++ x.1 := by unfold preW; rw [if_pos h]
theorem preW_way0 (p : List Int) (x : List Int × Int) (h : ¬ x.2 ≠ 0) : preW p x = x := by unfold preW; rw [if_neg h]
theorem leadsC_term (c : Cl) (j : Nat) (x : Tm) (w : List Int) (hx : c.ts[j]? = some x) (h : leadsT x w = true) : leadsC c ((j : Int) :: w) = true := by
  have hj := (List.getElem?_eq_some_iff.1 hx).1
  simp only [leadsC, Int.toNat_natCast, List.getD_eq_getElem?_getD, hx, Option.getD_some, h]
  have h1 : ((j : Int) < c.ts.length) := by omega
  simp only [h1, if_true, Bool.and_true, Bool.and_eq_true, decide_eq_true_eq]
  omega
theorem leadsC_sub (c : Cl) (j : Nat) (x : Cl) (w : List Int) (hx : c.ss[j]? = some x) (h : leadsC x w = true) : leadsC c (((c.ts.length : Int) + j) :: w) = true := by
  have hj := (List.getElem?_eq_some_iff.1 hx).1
  have h2 : ((c.ts.length : Int) + j - c.ts.length).toNat = j := by omega
  simp only [leadsC, List.getD_eq_getElem?_getD, h2, hx, Option.getD_some, h]
  have h1 : ¬ ((c.ts.length : Int) + j < c.ts.length) := by omega
  simp only [h1, if_false, Bool.and_true, Bool.and_eq_true, decide_eq_true_eq]
  omega
theorem claimW_leads (s : Sg) (vs : List Va) : ∀ (d : Nat) (c : Cl) (bs : List ByteArray), SizeOf.sizeOf c ≤ d → leadsC c (claimW s vs bs [] c).1 = true
  | 0, c, bs, h => by cases c; simp at h
  | d + 1, c, bs, h => by
    have key : ∀ (l : List Cl) (bs : List ByteArray) (i : Nat), (∀ x ∈ l, SizeOf.sizeOf x ≤ d) → (claimsW s vs bs [] c.ts.length i l).1 = [] ∨ ∃ (j : Nat) (x : Cl) (w : List Int), l[j]? = some x ∧ (claimsW s vs bs [] c.ts.length i l).1 = ((c.ts.length : Int) + ((i + j : Nat) : Int)) :: w ∧ leadsC x w = true := by
      intro l
      induction l with
      | nil => intro bs i _; rw [claimsW_nil]; exact .inl rfl
      | cons x r ih =>
        intro bs i hx
        rw [claimsW_cons, claimW_one]
        by_cases h : (claimW s vs bs [] x).2 ≠ 0
        · have h' : (preW [(c.ts.length : Int) + i] (claimW s vs bs [] x)).2 ≠ 0 := by unfold preW; rw [if_pos h]; exact h
          rw [if_pos h']
          exact .inr ⟨0, x, _, rfl, by rw [preW_way _ _ h]; rfl, claimW_leads s vs d x bs (hx x (by simp))⟩
        · rw [preW_way0 _ _ h, if_neg h]
          rcases ih bs (i + 1) (fun y hy => hx y (by simp [hy])) with e | ⟨j, y, w, h1, h2, h3⟩
          · exact .inl e
          · exact .inr ⟨j + 1, y, w, by simpa using h1, by rw [h2]; congr 3; omega, h3⟩
    have hk := allW_leads s vs bs leadsT c.ts 0 (fun x hx => termW_leads s vs bs _ x (Nat.le_refl _))
    have hl := lastW_leads s c.op c.nm (allW s vs bs [] 0 c.ts).1
    have hs := key c.ss (bindsW s bs c) 0 (fun x hx => by have := Cl.lt hx; omega)
    have hok := fun (h : (allW s vs bs [] 0 c.ts).2.2 = 0) => (allW_ok h).1
    rw [claimW_eq]
    split
    · show leadsC c (allW s vs bs [] 0 c.ts).2.1 = true
      rcases hk with e | ⟨j, x, w, h1, h2, h3⟩
      · rw [e]; rfl
      · rw [h2, Nat.zero_add]; exact leadsC_term c j x w h1 h3
    · rename_i h0
      split
      · rfl
      · split
        · rcases hs with e | ⟨j, x, w, h1, h2, h3⟩
          · rw [e]; rfl
          · rw [h2, Nat.zero_add]; exact leadsC_sub c j x w h1 h3
        · have hln := hok (by simpa using h0)
          rcases hl with e | ⟨k, e, hk⟩
          · rw [e]; rfl
          · rw [e]
            obtain ⟨x, hx⟩ : ∃ x, c.ts[k]? = some x := ⟨_, List.getElem?_eq_getElem (by omega)⟩
            exact leadsC_term c k x [] hx rfl
theorem wellC_leads (s : Sg) (vs : List Va) (c : Cl) : leadsC c (wellC s vs c).1 = true := by
  unfold wellC
  split
  · rfl
  · exact claimW_leads s vs _ c [] (Nat.le_refl _)
/-! ### more variables behind -/
theorem idx_append {α : Type} (p : α → Bool) (l l2 : List α) (h : idx p l < l.length) : idx p (l ++ l2) = idx p l := by
  induction l with
  | nil => simp [idx] at h
  | cons x r ih =>
    simp only [List.cons_append, idx] at h ⊢
    split
    · rfl
    · rename_i hp
      rw [if_neg hp, List.length_cons] at h
      rw [ih (by omega)]
theorem sortOf_more (vs more : List Va) (nm so : ByteArray) (h : sortOf vs nm = some so) : sortOf (vs ++ more) nm = some so := by
  unfold sortOf at h ⊢
  obtain ⟨v, hv, e⟩ := Option.map_eq_some_iff.1 h
  have hi := (List.getElem?_eq_some_iff.1 hv).1
  rw [idx_append _ _ _ hi, List.getElem?_append_left hi, hv]
  exact congrArg some e
theorem ownW_more (s : Sg) (vs more : List Va) (bs : List ByteArray) (way : List Int) (op : Int) (nm : ByteArray) (nu : Int) (has : List ByteArray) (h : (ownW s vs bs way op nm nu has).2.2 = 0) : ownW s (vs ++ more) bs way op nm nu has = ownW s vs bs way op nm nu has := by
  unfold ownW at h ⊢
  by_cases h1 : op = 1
  · rw [if_pos h1] at h
    rw [if_pos h1, if_pos h1]
    cases hso : sortOf vs nm with
    | none => rw [hso] at h; cases h
    | some so => rw [sortOf_more vs more nm so hso]
  · rw [if_neg h1, if_neg h1]
theorem termW_more (s : Sg) (vs more : List Va) (bs : List ByteArray) : ∀ (d : Nat) (t : Tm) (way : List Int), SizeOf.sizeOf t ≤ d → (termW s vs bs way t).2.2 = 0 → termW s (vs ++ more) bs way t = termW s vs bs way t
  | 0, t, way, h, _ => by cases t; simp at h
  | d + 1, t, way, h, h0 => by
    have key : ∀ (l : List Tm) (i : Nat), (∀ x ∈ l, SizeOf.sizeOf x ≤ d) → (allW s vs bs way i l).2.2 = 0 → allW s (vs ++ more) bs way i l = allW s vs bs way i l := by
      intro l
      induction l with
      | nil => intro i _ _; simp [allW]
      | cons x r ih =>
        intro i hx h0
        simp only [allW] at h0 ⊢
        by_cases h1 : (termW s vs bs (way ++ [(i : Int)]) x).2.2 ≠ 0
        · rw [if_pos h1] at h0; exact absurd h0 h1
        · rw [if_neg h1] at h0
          by_cases h2 : (allW s vs bs way (i + 1) r).2.2 ≠ 0
          · rw [if_pos h2] at h0; exact absurd h0 h2
          · rw [termW_more s vs more bs d x _ (hx x (by simp)) (by simpa using h1), ih (i + 1) (fun y hy => hx y (by simp [hy])) (by simpa using h2)]
    rw [termW_eq] at h0 ⊢
    by_cases h1 : (allW s vs bs way 0 t.l).2.2 ≠ 0
    · rw [if_pos h1] at h0; exact absurd h0 h1
    · rw [if_neg h1] at h0
      rw [termW_eq, key t.l 0 (fun x hx => by have := Tm.lt hx; omega) (by simpa using h1), if_neg h1, if_neg h1]
      exact ownW_more s vs more bs way _ _ _ _ h0
theorem allW_more (s : Sg) (vs more : List Va) (bs : List ByteArray) (way : List Int) : ∀ (l : List Tm) (i : Nat), (allW s vs bs way i l).2.2 = 0 → allW s (vs ++ more) bs way i l = allW s vs bs way i l
  | [], i, _ => by simp [allW]
  | x :: r, i, h0 => by
    simp only [allW] at h0 ⊢
    by_cases h1 : (termW s vs bs (way ++ [(i : Int)]) x).2.2 ≠ 0
    · rw [if_pos h1] at h0; exact absurd h0 h1
    · rw [if_neg h1] at h0
      by_cases h2 : (allW s vs bs way (i + 1) r).2.2 ≠ 0
      · rw [if_pos h2] at h0; exact absurd h0 h2
      · rw [termW_more s vs more bs _ x _ (Nat.le_refl _) (by simpa using h1), allW_more s vs more bs way r (i + 1) (by simpa using h2)]
theorem claimW_more (s : Sg) (vs more : List Va) : ∀ (d : Nat) (c : Cl) (bs : List ByteArray) (way : List Int), SizeOf.sizeOf c ≤ d → (claimW s vs bs way c).2 = 0 → claimW s (vs ++ more) bs way c = claimW s vs bs way c
  | 0, c, bs, way, h, _ => by cases c; simp at h
  | d + 1, c, bs, way, h, h0 => by
    have key : ∀ (l : List Cl) (bs : List ByteArray) (n i : Nat), (∀ x ∈ l, SizeOf.sizeOf x ≤ d) → (claimsW s vs bs way n i l).2 = 0 → claimsW s (vs ++ more) bs way n i l = claimsW s vs bs way n i l := by
      intro l
      induction l with
      | nil => intro bs n i _ _; rw [claimsW_nil, claimsW_nil]
      | cons x r ih =>
        intro bs n i hx h0
        rw [claimsW_cons] at h0 ⊢
        by_cases h1 : (claimW s vs bs (way ++ [(n : Int) + i]) x).2 ≠ 0
        · rw [if_pos h1] at h0; exact absurd h0 h1
        · rw [if_neg h1] at h0
          rw [claimsW_cons, claimW_more s vs more d x bs _ (hx x (by simp)) (by simpa using h1), ih bs n (i + 1) (fun y hy => hx y (by simp [hy])) h0]
    rw [claimW_eq] at h0 ⊢
    by_cases h1 : (allW s vs bs way 0 c.ts).2.2 ≠ 0
    · rw [if_pos h1] at h0; exact absurd h0 h1
    · rw [if_neg h1] at h0
      rw [claimW_eq, allW_more s vs more bs way c.ts 0 (by simpa using h1), if_neg h1, if_neg h1]
      by_cases h2 : (bindB c.op && !thingS s c.so) = true
      · rw [if_pos h2] at h0; cases h0
      · rw [if_neg h2] at h0
        rw [if_neg h2, if_neg h2]
        by_cases h3 : (claimsW s vs (bindsW s bs c) way c.ts.length 0 c.ss).2 ≠ 0
        · rw [if_pos h3] at h0; exact absurd h0 h3
        · rw [key c.ss _ _ _ (fun x hx => by have := Cl.lt hx; omega) (by simpa using h3)]
theorem claimW_zero (s : Sg) (vs : List Va) : ∀ (d : Nat) (c : Cl) (bs : List ByteArray) (way : List Int), SizeOf.sizeOf c ≤ d → (claimW s vs bs way c).2 = 0 → (claimW s vs bs way c).1 = []
  | 0, c, bs, way, h, _ => by cases c; simp at h
  | d + 1, c, bs, way, h, h0 => by
    rw [claimW_eq] at h0 ⊢
    split at h0
    · rename_i h1; exact absurd h0 h1
    · rename_i h1
      rw [if_neg h1]
      split at h0
      · cases h0
      · rename_i h2
        rw [if_neg h2]
        split at h0
        · rename_i h3; exact absurd h0 h3
        · rename_i h3
          rw [if_neg h3]
          unfold lastW at h0 ⊢
          split at h0
          · rename_i h4
            rw [if_pos h4]
            unfold applyW at h0 ⊢
            split at h0
            · cases h0
            · rename_i h5
              rw [if_neg h5]
              split at h0
              · cases h0
              · rename_i h6
                rw [if_neg h6]
                split at h0
                · rename_i h7; exact absurd h0 h7
                · rename_i h7; rw [if_neg h7]
          · rename_i h4
            rw [if_neg h4]
            split at h0
            · rename_i h5; rw [if_pos h5]; exact askW_zero _ _ _ _ _ h0
            · rename_i h5
              rw [if_neg h5]
              split at h0
              · rename_i h6; rw [if_pos h6]; exact askW_zero _ _ _ _ _ h0
              · rename_i h6; rw [if_neg h6]
theorem wellC_zero (s : Sg) (vs : List Va) (c : Cl) (h : (wellC s vs c).2 = 0) : (wellC s vs c).1 = [] := by
  unfold wellC at h ⊢
  split at h
  · rename_i h1; exact absurd h h1
  · rename_i h1; rw [if_neg h1]; exact claimW_zero s vs _ c [] [] (Nat.le_refl _) h
theorem wellC_more (s : Sg) (vs more : List Va) (c : Cl) (h : (wellC s vs c).2 = 0) : wellC s (vs ++ more) c = wellC s vs c := by
  unfold wellC at h ⊢
  split at h
  · rename_i h1; exact absurd h h1
  · rename_i h1; rw [if_neg h1, if_neg h1]; exact claimW_more s vs more _ c [] [] (Nat.le_refl _) h
end Go.Eng
