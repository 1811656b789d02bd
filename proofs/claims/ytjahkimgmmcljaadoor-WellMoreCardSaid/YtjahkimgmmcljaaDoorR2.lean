-- own work: an evaluator of the program's code, and what it answers
import Derived.Test.YtjahkimgmmcljaaDoorR1
import Derived.Test.YtjahkimgmmcljaaDoorWellA
set_option maxRecDepth 100000
set_option linter.unusedVariables false
set_option linter.unusedSimpArgs false
namespace Go.Eng
open Go Go.Proofs
/-! ### a way put ahead of an answer -/
def preA (p : List Int) (x : Ans) : Ans := if x.2.2 ≠ 0 then (x.1, p ++ x.2.1, x.2.2) else x
def preL (p : List Int) (x : List ByteArray × List Int × Int) : List ByteArray × List Int × Int := if x.2.2 ≠ 0 then (x.1, p ++ x.2.1, x.2.2) else x
def preW (p : List Int) (x : List Int × Int) : List Int × Int := if x.2 ≠ 0 then (p ++ x.1, x.2) else x
theorem askW_pre (p way : List Int) (frm : Int) : ∀ (i : Nat) (a b : List ByteArray), askW (p ++ way) frm i a b = preW p (askW way frm i a b)
  | i, [], b => by simp [askW, preW]
  | i, _ :: _, [] => by simp [askW, preW]
  | i, h :: hs, w :: ws => by
    simp only [askW]
    split
    · exact askW_pre p way frm (i + 1) hs ws
    · simp [preW]
theorem askW_e (way : List Int) (frm : Int) : ∀ (i : Nat) (a b : List ByteArray), (askW way frm i a b).2 = 0 ∨ (askW way frm i a b).2 = 11
  | i, [], b => by simp [askW]
  | i, _ :: _, [] => by simp [askW]
  | i, h :: hs, w :: ws => by
    simp only [askW]
    split
    · exact askW_e way frm (i + 1) hs ws
    · simp
theorem applyW_pre (p way : List Int) (f : Fu) (ok : Bool) (has : List ByteArray) : applyW (p ++ way) f ok has = preA p (applyW way f ok has) := by
  unfold applyW
  split
  · simp [preA]
  · split
    · simp [preA]
    · rw [askW_pre]
      generalize askW way 0 0 has f.args = q
      obtain ⟨a, e⟩ := q
      by_cases h : e = 0
      · simp [preW, preA, h]
      · simp [preW, preA, h]
theorem ownW_pre (s : Sg) (vs : List Va) (bs : List ByteArray) (p way : List Int) (op : Int) (nm : ByteArray) (nu : Int) (has : List ByteArray) : ownW s vs bs (p ++ way) op nm nu has = preA p (ownW s vs bs way op nm nu has) := by
  unfold ownW
  split
  · cases sortOf vs nm <;> simp [preA]
  · split
    · split <;> simp [preA]
    · split
      · exact applyW_pre p way _ _ has
      · rw [askW_pre]
        generalize askW way 0 0 has (List.replicate has.length sInt) = q
        obtain ⟨a, e⟩ := q
        by_cases h : e = 0
        · simp [preW, preA, h]
        · simp [preW, preA, h]
theorem termW_pre (s : Sg) (vs : List Va) (bs : List ByteArray) (p : List Int) : ∀ (d : Nat) (t : Tm) (way : List Int), SizeOf.sizeOf t ≤ d → termW s vs bs (p ++ way) t = preA p (termW s vs bs way t)
  | 0, t, way, h => by cases t; simp at h
  | d + 1, .mk op nm nu l, way, h => by
    have key : ∀ (l : List Tm) (way : List Int) (i : Nat), (∀ x ∈ l, SizeOf.sizeOf x ≤ d) → allW s vs bs (p ++ way) i l = preL p (allW s vs bs way i l) := by
      intro l
      induction l with
      | nil => intro way i _; simp [allW, preL]
      | cons x r ih =>
        intro way i hx
        simp only [allW]
        rw [List.append_assoc, termW_pre s vs bs p d x (way ++ [(i : Int)]) (hx x (by simp)), ih way (i + 1) (fun y hy => hx y (by simp [hy]))]
        generalize termW s vs bs (way ++ [(i : Int)]) x = q
        generalize allW s vs bs way (i + 1) r = q2
        obtain ⟨a, b, e⟩ := q
        obtain ⟨a2, b2, e2⟩ := q2
        by_cases h : e = 0 <;> by_cases h2 : e2 = 0 <;> simp [preA, preL, h, h2]
    rw [termW, termW, key l way 0 (fun x hx => by have := List.sizeOf_lt_of_mem hx; simp at h; omega)]
    generalize allW s vs bs way 0 l = q
    obtain ⟨a, b, e⟩ := q
    by_cases h : e = 0
    · have hk : preL p (a, b, e) = (a, b, e) := by simp [preL, h]
      rw [hk]
      simp only [h, ne_eq, not_true_eq_false, if_false]
      exact ownW_pre s vs bs p way op nm nu a
    · have hk : preL p (a, b, e) = (a, p ++ b, e) := by simp [preL, h]
      rw [hk]
      simp [preA, h]
theorem allW_pre (s : Sg) (vs : List Va) (bs : List ByteArray) (p : List Int) : ∀ (l : List Tm) (way : List Int) (i : Nat), allW s vs bs (p ++ way) i l = preL p (allW s vs bs way i l)
  | [], way, i => by simp [allW, preL]
  | x :: r, way, i => by
    simp only [allW]
    rw [List.append_assoc, termW_pre s vs bs p _ x (way ++ [(i : Int)]) (Nat.le_refl _), allW_pre s vs bs p r way (i + 1)]
    generalize termW s vs bs (way ++ [(i : Int)]) x = q
    generalize allW s vs bs way (i + 1) r = q2
    obtain ⟨a, b, e⟩ := q
    obtain ⟨a2, b2, e2⟩ := q2
    by_cases h : e = 0 <;> by_cases h2 : e2 = 0 <;> simp [preA, preL, h, h2]
theorem lastW_pre (s : Sg) (p way : List Int) (op : Int) (nm : ByteArray) (has : List ByteArray) : lastW s (p ++ way) op nm has = preW p (lastW s way op nm has) := by
  unfold lastW
  split
  · rw [applyW_pre]
    generalize applyW way (findF s nm).1 ((findF s nm).2 && (beqS (findF s nm).1.res sBool == true)) has = q
    obtain ⟨a, b, e⟩ := q
    by_cases h : e = 0 <;> simp [preA, preW, h]
  · split
    · exact askW_pre p way 0 0 has _
    · split
      · exact askW_pre p way 0 0 has _
      · simp [preW]
theorem claimW_pre (s : Sg) (vs : List Va) (p : List Int) : ∀ (d : Nat) (c : Cl) (bs : List ByteArray) (way : List Int), SizeOf.sizeOf c ≤ d → claimW s vs bs (p ++ way) c = preW p (claimW s vs bs way c)
  | 0, c, bs, way, h => by cases c; simp at h
  | d + 1, c, bs, way, h => by
    have key : ∀ (l : List Cl) (bs : List ByteArray) (way : List Int) (n i : Nat), (∀ x ∈ l, SizeOf.sizeOf x ≤ d) → claimsW s vs bs (p ++ way) n i l = preW p (claimsW s vs bs way n i l) := by
      intro l
      induction l with
      | nil => intro bs way n i _; simp [claimsW_nil, preW]
      | cons x r ih =>
        intro bs way n i hx
        rw [claimsW_cons, claimsW_cons, List.append_assoc, claimW_pre s vs p d x bs (way ++ [(n : Int) + i]) (hx x (by simp)), ih bs way n (i + 1) (fun y hy => hx y (by simp [hy]))]
        generalize claimW s vs bs (way ++ [(n : Int) + i]) x = q
        obtain ⟨a, e⟩ := q
        by_cases h : e = 0
        · have hk : preW p (a, e) = (a, e) := by simp [preW, h]
          rw [hk]; simp [h]
        · have hk : preW p (a, e) = (p ++ a, e) := by simp [preW, h]
          rw [hk]; simp [h, preW]
    rw [claimW_eq, claimW_eq, allW_pre, lastW_pre]
    rw [key c.ss _ way _ _ (fun x hx => by have := Cl.lt hx; omega)]
    generalize allW s vs bs way 0 c.ts = q
    generalize claimsW s vs (bindsW s bs c) way c.ts.length 0 c.ss = q2
    generalize hlw : lastW s way c.op c.nm = lw
    obtain ⟨a, b, e⟩ := q
    obtain ⟨a2, e2⟩ := q2
    by_cases h : e = 0
    · have hk : preL p (a, b, e) = (a, b, e) := by simp [preL, h]
      rw [hk]
      simp only [h, ne_eq, not_true_eq_false, if_false]
      by_cases hb : (bindB c.op && !thingS s c.so) = true
      · simp [hb, preW]
      · simp only [hb, if_false]
        by_cases h2 : e2 = 0
        · have hk2 : preW p (a2, e2) = (a2, e2) := by simp [preW, h2]
          rw [hk2]; simp [h2]
        · have hk2 : preW p (a2, e2) = (p ++ a2, e2) := by simp [preW, h2]
          rw [hk2]; simp [h2, preW]
    · have hk : preL p (a, b, e) = (a, p ++ b, e) := by simp [preL, h]
      rw [hk]
      simp [preW, h]
end Go.Eng
