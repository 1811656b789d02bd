-- own work: an evaluator of the program's code, and what it answers
import Derived.Test.YtdmoipccmbimhaaGreatDoorW11
import Derived.Test.YtdmoipccmbimhaaGreatDoorZB
/- Terms and claims that are well sorted, and their values: plain Lean. -/
set_option maxRecDepth 100000
set_option linter.unusedVariables false
namespace Go.Eng
open Go Go.Proofs
structure Bd where
  nm : ByteArray
  val : Int
mutual
/-- has a term this sort, under these binders? -/
def tyT (s : Sg) (vs : List Va) (bs : List ByteArray) : Tm → ByteArray → Prop
  | .mk op nm nu l, so =>
    if op = 1 then l = [] ∧ sortOf vs nm = some so
    else if op = 2 then l = [] ∧ 0 ≤ nu ∧ nu < bs.length ∧ so = bs.getD (bs.length - 1 - nu.toNat) noS
    else if op = 3 then ∃ f, findF s nm = (f, true) ∧ beqS f.res sBool = false ∧ so = f.res ∧ tysT s vs bs l f.args
    else if op = 4 then l = [] ∧ so = sInt
    else if op = 5 ∨ op = 6 then so = sInt ∧ tysT s vs bs l [sInt, sInt]
    else (op = 7 ∨ op = 8) ∧ so = sInt ∧ tysT s vs bs l [sInt]
def tysT (s : Sg) (vs : List Va) (bs : List ByteArray) : List Tm → List ByteArray → Prop
  | [], [] => True
  | x :: l, a :: r => tyT s vs bs x a ∧ tysT s vs bs l r
  | [], _ :: _ => False
  | _ :: _, [] => False
end
theorem tysT_len {s : Sg} {vs : List Va} {bs : List ByteArray} : ∀ {l : List Tm} {r : List ByteArray}, tysT s vs bs l r → l.length = r.length
  | [], [], _ => rfl
  | x :: l, a :: r, h => by
    simp only [tysT] at h
    simp [tysT_len h.2]
  | [], _ :: _, h => by simp [tysT] at h
  | _ :: _, [], h => by simp [tysT] at h
theorem askW_eq {way : List Int} {frm : Int} : ∀ {has wants : List ByteArray} {i : Nat}, has.length = wants.length → (askW way frm i has wants).2 = 0 → has = wants
  | [], [], _, _, _ => rfl
  | [], _ :: _, _, h, _ => by simp at h
  | _ :: _, [], _, h, _ => by simp at h
  | a :: has, b :: wants, i, h, e => by
    simp only [askW] at e
    split at e
    · rename_i hb
      rw [beqS_iff.1 hb, askW_eq (by simpa using h) e]
    · cases e
theorem len_one {α : Type} {l : List α} (h : l.length = 1) : ∃ a, l = [a] := by
  match l, h with
  | [a], _ => exact ⟨a, rfl⟩
theorem len_two {α : Type} {l : List α} (h : l.length = 2) : ∃ a b, l = [a, b] := by
  match l, h with
  | [a, b], _ => exact ⟨a, b, rfl⟩
theorem firstT_part {op : Int} {nm : ByteArray} {nu : Int} {l : List Tm} (h : firstT (.mk op nm nu l) = 0) : partE op nm nu l.length = 0 ∧ firstTs l = 0 := by
  simp only [firstT] at h
  split at h
  · rename_i h1; exact absurd h h1
  · rename_i h1; exact ⟨by simpa using h1, h⟩
theorem firstTsC {x : Tm} {l : List Tm} (h : firstTs (x :: l) = 0) : firstT x = 0 ∧ firstTs l = 0 := by
  simp only [firstTs] at h
  split at h
  · rename_i h1; exact absurd h h1
  · rename_i h1; exact ⟨by simpa using h1, h⟩
mutual
theorem ty_of (s : Sg) (vs : List Va) (bs : List ByteArray) : ∀ (t : Tm) (way : List Int), firstT t = 0 → (termW s vs bs way t).2.2 = 0 → tyT s vs bs t (termW s vs bs way t).1
  | .mk op nm nu l, way, hf, ht => by
    obtain ⟨hp, hfs⟩ := firstT_part hf
    have hn : 1 ≤ op ∧ op ≤ 8 ∧ (op ≠ 3 → (l.length : Int) = needsL.getD op.toNat 0) ∧ (op = 2 → 0 ≤ nu) := by
      unfold partE at hp
      split at hp
      · cases hp
      · split at hp
        · cases hp
        · split at hp
          · cases hp
          · rename_i h1 h2 h3
            refine ⟨by omega, by omega, fun e => ?_, fun e => by omega⟩
            by_cases hc : (l.length : Int) = needsL.getD op.toNat 0
            · exact hc
            · exact absurd (.inr ⟨e, hc⟩) h3
    rw [termW] at ht ⊢
    by_cases ha : (allW s vs bs way 0 l).2.2 ≠ 0
    · rw [if_pos ha] at ht; exact absurd ht ha
    · rw [if_neg ha] at ht ⊢
      have hty := tys_of s vs bs l way 0 hfs (by simpa using ha)
      have hlen := tysT_len hty
      generalize (allW s vs bs way 0 l).1 = has at ht hty hlen ⊢
      unfold ownW at ht ⊢
      rw [tyT]
      by_cases h1 : op = 1
      · subst h1
        have h0 := hn.2.2.1 (by decide)
        have hl : l = [] := by
          have : l.length = 0 := by have e : needsL.getD (1 : Int).toNat 0 = 0 := rfl; omega
          exact List.eq_nil_of_length_eq_zero this
        rw [if_pos rfl] at ht ⊢
        rw [if_pos rfl]
        cases hso : sortOf vs nm with
        | none => rw [hso] at ht; cases ht
        | some so => exact ⟨hl, rfl⟩
      · rw [if_neg h1] at ht ⊢
        rw [if_neg h1]
        by_cases h2 : op = 2
        · subst h2
          have h0 := hn.2.2.1 (by decide)
          have hl : l = [] := by
            have : l.length = 0 := by have e : needsL.getD (2 : Int).toNat 0 = 0 := rfl; omega
            exact List.eq_nil_of_length_eq_zero this
          rw [if_pos rfl] at ht ⊢
          rw [if_pos rfl]
          by_cases hb : (bs.length : Int) ≤ nu
          · rw [if_pos hb] at ht; cases ht
          · rw [if_neg hb]
            exact ⟨hl, hn.2.2.2 rfl, by omega, rfl⟩
        · rw [if_neg h2] at ht ⊢
          rw [if_neg h2]
          by_cases h3 : op = 3
          · subst h3
            rw [if_pos rfl] at ht ⊢
            rw [if_pos rfl]
            unfold applyW at ht ⊢
            generalize hfi : findF s nm = fi at ht ⊢
            obtain ⟨f, ok⟩ := fi
            simp only at ht ⊢
            by_cases hok : (ok && (beqS f.res sBool == false)) = false
            · rw [if_pos hok] at ht; cases ht
            · rw [if_neg hok] at ht ⊢
              simp only [Bool.not_eq_false, Bool.and_eq_true, beq_iff_eq] at hok
              obtain ⟨rfl, hres⟩ := hok
              by_cases hle : f.args.length ≠ has.length
              · rw [if_pos hle] at ht; cases ht
              · rw [if_neg hle] at ht ⊢
                by_cases hask : (askW way 0 0 has f.args).2 ≠ 0
                · rw [if_pos hask] at ht; exact absurd ht hask
                · rw [if_neg hask]
                  have he := askW_eq (Decidable.not_not.1 hle).symm (by simpa using hask)
                  exact ⟨f, rfl, hres, rfl, he ▸ hty⟩
          · rw [if_neg h3] at ht ⊢
            rw [if_neg h3]
            have h0 := hn.2.2.1 h3
            by_cases hask : (askW way 0 0 has (List.replicate has.length sInt)).2 ≠ 0
            · rw [if_pos hask] at ht; exact absurd ht hask
            · rw [if_neg hask]
              have he := askW_eq List.length_replicate.symm (by simpa using hask)
              have hc : op = 4 ∨ op = 5 ∨ op = 6 ∨ op = 7 ∨ op = 8 := by omega
              rcases hc with rfl | rfl | rfl | rfl | rfl
              · rw [if_pos rfl]
                have : l.length = 0 := by have e : needsL.getD (4 : Int).toNat 0 = 0 := rfl; omega
                exact ⟨List.eq_nil_of_length_eq_zero this, rfl⟩
              · rw [if_neg (by decide), if_pos (by decide)]
                have e2 : has.length = 2 := by have e : needsL.getD (5 : Int).toNat 0 = 2 := rfl; omega
                rw [e2] at he
                rw [he] at hty
                exact ⟨rfl, hty⟩
              · rw [if_neg (by decide), if_pos (by decide)]
                have e2 : has.length = 2 := by have e : needsL.getD (6 : Int).toNat 0 = 2 := rfl; omega
                rw [e2] at he
                rw [he] at hty
                exact ⟨rfl, hty⟩
              · rw [if_neg (by decide), if_neg (by decide)]
                have e2 : has.length = 1 := by have e : needsL.getD (7 : Int).toNat 0 = 1 := rfl; omega
                rw [e2] at he
                rw [he] at hty
                exact ⟨by decide, rfl, hty⟩
              · rw [if_neg (by decide), if_neg (by decide)]
                have e2 : has.length = 1 := by have e : needsL.getD (8 : Int).toNat 0 = 1 := rfl; omega
                rw [e2] at he
                rw [he] at hty
                exact ⟨by decide, rfl, hty⟩
theorem tys_of (s : Sg) (vs : List Va) (bs : List ByteArray) : ∀ (l : List Tm) (way : List Int) (i : Nat), firstTs l = 0 → (allW s vs bs way i l).2.2 = 0 → tysT s vs bs l (allW s vs bs way i l).1
  | [], way, i, _, _ => by simp [allW, tysT]
  | x :: r, way, i, hf, ha => by
    obtain ⟨h1, h2⟩ := firstTsC hf
    simp only [allW] at ha ⊢
    by_cases c1 : (termW s vs bs (way ++ [(i : Int)]) x).2.2 ≠ 0
    · rw [if_pos c1] at ha; exact absurd ha c1
    · rw [if_neg c1] at ha ⊢
      by_cases c2 : (allW s vs bs way (i + 1) r).2.2 ≠ 0
      · rw [if_pos c2] at ha; exact absurd ha c2
      · rw [if_neg c2]
        simp only [tysT]
        exact ⟨ty_of s vs bs x _ h1 (by simpa using c1), tys_of s vs bs r _ _ h2 (by simpa using c2)⟩
end
/-! ### values -/
def fitsV (n : Int) : Int × Int := if -9223372036854775808 ≤ n ∧ n ≤ 9223372036854775807 then (n, 0) else (0, 5)
def isB (nm : ByteArray) (b : Bd) : Bool := beqS b.nm nm
def varV (s : Sg) (w : Wd) (vs : List Va) (env : List Bd) (nm : ByteArray) : Int × Int :=
  match sortOf vs nm, env[idx (isB nm) env]? with
  | some so, some b => if beqS so sInt = false ∧ (b.val < 0 ∨ sizeI s.sorts w.sizes so ≤ b.val) then (0, 3) else (b.val, 0)
  | _, _ => (0, 3)
def atV (s : Sg) (w : Wd) : Int → List ByteArray → List Int → Int
  | a, x :: r, v :: l => atV s w (a * sizeI s.sorts w.sizes x + v) r l
  | a, _, _ => a
def appV (s : Sg) (w : Wd) (nm : ByteArray) (l : List Int) : Int × Int :=
  if wholeB (findF s nm).1 = true then (0, 1) else (((w.tables.getD (idx (hasF nm) s.funs) []).getD (atV s w 0 (findF s nm).1.args l).toNat 0), 0)
def ownV (s : Sg) (w : Wd) (vs : List Va) (env : List Bd) (bnd : List Int) (op : Int) (nm : ByteArray) (nu : Int) (l : List Int) : Int × Int :=
  if op = 1 then varV s w vs env nm
  else if op = 2 then (bnd.getD (bnd.length - 1 - nu.toNat) 0, 0)
  else if op = 3 then appV s w nm l
  else if op = 5 then fitsV (l.getD 0 0 + l.getD 1 0)
  else if op = 6 then fitsV (l.getD 0 0 - l.getD 1 0)
  else if op = 7 then fitsV (-(l.getD 0 0))
  else if op = 8 then fitsV (nu * l.getD 0 0)
  else (nu, 0)
mutual
def valV (s : Sg) (w : Wd) (vs : List Va) (env : List Bd) (bnd : List Int) : Tm → Int × Int
  | .mk op nm nu l => if (valsV s w vs env bnd l).2 ≠ 0 then (0, (valsV s w vs env bnd l).2) else ownV s w vs env bnd op nm nu (valsV s w vs env bnd l).1
def valsV (s : Sg) (w : Wd) (vs : List Va) (env : List Bd) (bnd : List Int) : List Tm → List Int × Int
  | [] => ([], 0)
  | x :: r => if (valV s w vs env bnd x).2 ≠ 0 then ([], (valV s w vs env bnd x).2) else if (valsV s w vs env bnd r).2 ≠ 0 then ([], (valsV s w vs env bnd r).2) else ((valV s w vs env bnd x).1 :: (valsV s w vs env bnd r).1, 0)
end
end Go.Eng
