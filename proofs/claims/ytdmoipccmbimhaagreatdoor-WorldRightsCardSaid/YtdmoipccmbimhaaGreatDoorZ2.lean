-- own work: an evaluator of the program's code, and what it answers
import Derived.Test.YtdmoipccmbimhaaGreatDoorZ1
/- Whether a world is one of a signature: package world. -/
set_option maxRecDepth 100000
set_option linter.unusedVariables false
set_option linter.unusedSimpArgs false
namespace Go.Eng
open Go Go.Proofs
theorem idxAny {α : Type} (p : α → Bool) (l : List α) : decide (0 ≤ (if idx p l < l.length then (idx p l : Int) else -1)) = l.any p := by
  rw [← idx_any]
  split
  · rename_i h; rw [dec_t h, dec_t (by omega)]
  · rename_i h; rw [dec_f h]; rfl
def badN (n : Int) : Bool := decide (n < 1) || decide (n > 8)
set_option maxHeartbeats 1000000 in
theorem badN_ev (n : Int) (ro : Nat) (m : Mem) : evL Tryz.prog AnZ ro 69 [.c (.v (.int .i64 n))] m = some (.c (.v (.bool (badN n))), m) := by
  refine evL_by (n := 9) (by kernel_rfl) rfl fn69 rfl rfl rfl rfl ?_
  unfold badN
  cases h1 : decide (n < 1) <;> cases h2 : decide (n > 8) <;> simp only [go_sem, ↓reduceIte, h1, h2]
set_option maxHeartbeats 1000000 in
theorem bindex_ev (l : List Int) (hl : l.length ≤ maxLen) (ro : Nat) (m : Mem) :
    evL Tryz.prog AnZ ro 71 [.c (.sl (l.map cI)), .c (.fn (.func 69) [])] m = some (.c (.v (.int .i64 (if idx badN l < l.length then (idx badN l : Int) else -1))), m) := by
  rw [maxLen_eq] at hl
  refine evL_by (n := 19) (by kernel_rfl) rfl fn71 rfl rfl rfl rfl ?_
  simp only [go_sem, ↓reduceIte]
  generalize hL : loopW _ _ = L
  have hle := idx_le badN l
  obtain ⟨i, h1, hE, rfl⟩ := loopW_at hL (fun i : Nat => [(8, .c (.v (.int .i64 i)))]) (fun _ => [] :: m) (fun i => i ≤ idx badN l) (fun i => i = idx badN l) (fun i => l.length - i) 0 rfl rfl (by omega) (by
    rintro i h1 hE
    obtain ⟨x, hx⟩ : ∃ x, l[i]? = some x := ⟨_, List.getElem?_eq_getElem (by omega)⟩
    have c1 : decide ((i : Int) < (l.length : Int)) = true := dec_t (by omega)
    have c3 : IntKind.i64.wrap ((i : Int) + 1) = ((i + 1 : Nat) : Int) := wrap64 (by omega) (by omega)
    have c2 := idx_not badN l i x (by omega) hx
    have e := fun ro m => badN_ev x ro m
    rw [c2] at e
    refine ⟨i + 1, by omega, by omega, ?_⟩
    rw [round_go]
    simp only [go_sem, ↓reduceIte, c1, c3, hx, e])
  clear hL
  subst hE
  rw [loopW_go]
  by_cases hi : idx badN l < l.length
  · obtain ⟨x, hx⟩ : ∃ x, l[idx badN l]? = some x := ⟨_, List.getElem?_eq_getElem hi⟩
    have c1 : decide ((idx badN l : Int) < (l.length : Int)) = true := dec_t (by omega)
    have c2 := idx_is badN l x hx
    have e := fun ro m => badN_ev x ro m
    rw [c2] at e
    simp only [go_sem, ↓reduceIte, c1, hx, e, if_pos hi]
  · have c1 : decide ((idx badN l : Int) < (l.length : Int)) = false := dec_f (by omega)
    simp only [go_sem, ↓reduceIte, c1, if_neg hi]
set_option maxHeartbeats 1000000 in
theorem bcontains_ev (l : List Int) (hl : l.length ≤ maxLen) (ro : Nat) (m : Mem) :
    evL Tryz.prog AnZ ro 44 [.c (.sl (l.map cI)), .c (.fn (.func 69) [])] m = some (.c (.v (.bool (l.any badN))), m) := by
  have h := fun ro m => bindex_ev l hl ro m
  refine evL_by (n := 9) (by kernel_rfl) rfl fn44 rfl rfl rfl rfl ?_
  rw [← idxAny]
  simp only [go_sem, ↓reduceIte, ge_iff_le, h]
def sizedE (s : Sg) (l : List Int) : Int := if signE s ≠ 0 then signE s else if l.length ≠ s.sorts.length then 1 else if l.any badN = true then 1 else 0
set_option maxHeartbeats 1000000 in
theorem sized_ev (s : Sg) (l : List Int) (hs : okS s) (hl : l.length ≤ maxLen) (ro : Nat) (m : Mem) :
    evL Tryz.prog AnZ ro 41 [.c (encS s), .c (.sl (l.map cI))] m = some (.c (.v (.int .i64 (sizedE s l))), m) := by
  refine evL_by (n := 21) (by kernel_rfl) rfl fn41 rfl rfl rfl rfl ?_
  have h := fun ro m => sright_ev s hs ro m
  have hb := fun ro m => bcontains_ev l hl ro m
  unfold sizedE
  generalize signE s = e at h
  by_cases h0 : e = 0
  · subst h0
    have cz : ((0 : Int) != 0) = false := rfl
    rw [if_neg (by simp)]
    by_cases h1 : l.length = s.sorts.length
    · have c1 : ((l.length : Int) != (s.sorts.length : Int)) = false := bneI_f (by omega)
      rw [if_neg (by simpa using h1)]
      cases h2 : l.any badN <;> rw [h2] at hb <;> simp only [go_sem, ↓reduceIte, h, cz, c1, hb, Bool.false_eq_true]
    · have c1 : ((l.length : Int) != (s.sorts.length : Int)) = true := bneI_t (by omega)
      rw [if_pos (by simpa using h1)]
      simp only [go_sem, ↓reduceIte, h, cz, c1]
  · have c1 : (e != 0) = true := bneI_t h0
    rw [if_pos h0]
    simp only [go_sem, ↓reduceIte, h, c1]
theorem fstE_cases {e : Nat → Int} {n : Nat} : (fstE e n = 0 ∧ ∀ i, i < n → e i = 0) ∨ (∃ i, i < n ∧ e i ≠ 0 ∧ fstE e n = e i ∧ ∀ j, j < i → e j = 0) := by
  by_cases h : fstI e n < n
  · refine .inr ⟨fstI e n, h, fstI_is h, by unfold fstE; rw [if_pos h], fun j hj => fstI_not (n := n) hj⟩
  · refine .inl ⟨by unfold fstE; rw [if_neg h], fun i hi => fstI_not (n := n) (by omega)⟩
/-- what is known of sorts that are right -/
theorem sortsE_ok {l : List ByteArray} (h : sortsE l = 0) (hs : ∀ x ∈ l, x.size ≤ maxLen) : (sBool :: l).Nodup ∧ ∀ x ∈ l, mayS x = true := by
  have h64 : ¬ 64 < l.length := by intro hx; unfold sortsE at h; rw [if_pos hx] at h; cases h
  unfold sortsE at h
  rw [if_neg h64] at h
  have hz := fstE_zero h
  have key : ∀ i x, l[i]? = some x → mayS x = true ∧ (l.take i).any (isS x) = false := by
    intro i x hx
    have hi := (List.getElem?_eq_some_iff.1 hx).1
    have := hz i hi
    simp only [sortE, hx] at this
    have k1 : mayS x = true := by cases h : mayS x <;> simp [h] at this ⊢
    refine ⟨k1, ?_⟩
    rw [k1] at this
    cases h : (l.take i).any (isS x) <;> simp [h] at this ⊢
  have hmay : ∀ x ∈ l, mayS x = true := fun x hx => by
    obtain ⟨i, hi⟩ := List.getElem?_of_mem hx
    exact (key i x hi).1
  refine ⟨List.nodup_cons.2 ⟨fun hm => ?_, ?_⟩, hmay⟩
  · have := hmay _ hm
    simp [mayS, beqS] at this
  · show List.Pairwise (· ≠ ·) l
    rw [List.pairwise_iff_getElem]
    intro a b ha hb hlt hab
    have := (key b l[b] (List.getElem?_eq_getElem hb)).2
    rw [List.any_eq_false] at this
    refine this l[a] ?_ (by simp [isS, beqS, hab])
    rw [List.mem_take_iff_getElem]
    exact ⟨a, by omega, rfl⟩
theorem sizedE_ok {s : Sg} {l : List Int} (hs : okS s) (h : sizedE s l = 0) : sizesP s.sorts l ∧ signE s = 0 ∧ ∀ x ∈ l, 1 ≤ x ∧ x ≤ 8 := by
  unfold sizedE at h
  have h0 : signE s = 0 := by
    by_cases hc : signE s = 0
    · exact hc
    · rw [if_pos hc] at h; exact absurd h hc
  rw [h0, if_neg (by simp)] at h
  have h1 : l.length = s.sorts.length := by
    by_cases hc : l.length = s.sorts.length
    · exact hc
    · rw [if_pos (by simpa using hc)] at h; cases h
  rw [if_neg (by simpa using h1)] at h
  have h2 : l.any badN = false := by cases hb : l.any badN <;> simp [hb] at h ⊢
  have hso : sortsE s.sorts = 0 := by
    unfold signE at h0
    by_cases hc : sortsE s.sorts = 0
    · exact hc
    · rw [if_pos hc] at h0; exact absurd h0 hc
  refine ⟨⟨h1, by have := sortsE_len hso; omega, (sortsE_ok hso hs.each).1, hs.each⟩, h0, fun x hx => ?_⟩
  have := List.any_eq_false.1 h2 x hx
  simp only [badN, Bool.or_eq_true, decide_eq_true_eq, not_or] at this
  omega
theorem sizeI_bd {so : List ByteArray} {l : List Int} (h : ∀ x ∈ l, 1 ≤ x ∧ x ≤ 8) (x : ByteArray) : 0 ≤ sizeI so l x ∧ sizeI so l x ≤ 8 := by
  unfold sizeI
  split
  · omega
  · by_cases hi : idx (isS x) so < l.length
    · rw [List.getD, List.getElem?_eq_getElem hi]
      have := h _ (List.getElem_mem hi)
      simp only [Option.getD_some]
      omega
    · rw [List.getD, List.getElem?_eq_none (by omega)]
      simp
end Go.Eng
