-- own work: an evaluator of the program's code, and what it answers
import Derived.Test.YtdmoipccmbimhaaGreatDoorZ7
/- Claims that are well sorted, and whether they hold: plain Lean. -/
set_option maxRecDepth 100000
set_option linter.unusedVariables false
namespace Go.Eng
open Go Go.Proofs
mutual
/-- is a claim well sorted, and are its terms such? -/
def tyC (s : Sg) (vs : List Va) (T : Tm → Prop) : List ByteArray → Cl → Prop
  | bs, .mk op nm so ts ss => (1 ≤ op ∧ op ≤ 12 ∧ (ss.length : Int) = arityS op) ∧ (∃ has, tysT s vs bs ts has ∧ (op = 3 → ∃ f, findF s nm = (f, true) ∧ beqS f.res sBool = true ∧ has = f.args)) ∧ (op = 4 ∨ op = 5 → ts.length = 2) ∧ ts.length ≤ 8 ∧ (∀ x ∈ ts, T x) ∧ (bindB op = true → thingS s so = true) ∧ tyCs s vs T (if bindB op then bs ++ [so] else bs) ss
def tyCs (s : Sg) (vs : List Va) (T : Tm → Prop) : List ByteArray → List Cl → Prop
  | _, [] => True
  | bs, x :: r => tyC s vs T bs x ∧ tyCs s vs T bs r
end
theorem tyCs_mem {s : Sg} {vs : List Va} {T : Tm → Prop} {bs : List ByteArray} : ∀ {l : List Cl}, tyCs s vs T bs l → ∀ x ∈ l, tyC s vs T bs x
  | [], _, x, hx => by cases hx
  | y :: r, h, x, hx => by
    simp only [tyCs] at h
    rcases List.mem_cons.1 hx with rfl | hx
    · exact h.1
    · exact tyCs_mem h.2 x hx
theorem rightT_first {t : Tm} (h : rightT t = 0) : firstT t = 0 := by
  unfold rightT at h
  split at h
  · cases h
  · split at h
    · cases h
    · exact h
theorem rightTs_first : ∀ {l : List Tm}, rightTs l = 0 → firstTs l = 0
  | [], _ => rfl
  | x :: r, h => by
    rw [rightTs_cons] at h
    by_cases c : rightT x ≠ 0
    · rw [if_pos c] at h; exact absurd h c
    · rw [if_neg c] at h
      simp only [firstTs]
      rw [if_neg (by simpa using rightT_first (by simpa using c)), rightTs_first h]
theorem cpartE_ops {c : Cl} (h : cpartE c = 0) : 1 ≤ c.op ∧ c.op ≤ 12 := by
  unfold cpartE at h
  split at h
  · cases h
  · rename_i a
    have a1 : ¬ (c.op < 1 ∨ 12 < c.op) := fun h => a (.inl h)
    omega
mutual
theorem ty_ofC (s : Sg) (vs : List Va) : ∀ (c : Cl) (bs : List ByteArray) (way : List Int), firstC c = 0 → (claimW s vs bs way c).2 = 0 → tyC s vs (fun _ => True) bs c
  | .mk op nm so ts ss, bs, way, hf, hc => by
    rw [firstC] at hf
    by_cases h1 : cpartE (.mk op nm so ts ss) ≠ 0
    · rw [if_pos h1] at hf; exact absurd hf h1
    rw [if_neg h1] at hf
    by_cases h2 : rightTs ts ≠ 0
    · rw [if_pos h2] at hf; exact absurd hf h2
    rw [if_neg h2] at hf
    have hp : (1 ≤ op ∧ op ≤ 12) ∧ ((0 ≤ arityT op → (ts.length : Int) = arityT op) ∧ ts.length ≤ 8 ∧ (ss.length : Int) = arityS op) := by
      have h1' : cpartE (.mk op nm so ts ss) = 0 := by simpa using h1
      obtain ⟨k1, k2, k3⟩ := cpartE_zero h1'
      exact ⟨cpartE_ops h1', k3, k1, k2⟩
    obtain ⟨⟨p1, p2⟩, p3, p4, p5⟩ := hp
    rw [claimW] at hc
    by_cases h3 : (allW s vs bs way 0 ts).2.2 ≠ 0
    · rw [if_pos h3] at hc; exact absurd hc h3
    rw [if_neg h3] at hc
    have hty := tys_of s vs bs ts way 0 (rightTs_first (by simpa using h2)) (by simpa using h3)
    generalize (allW s vs bs way 0 ts).1 = has at hc hty
    by_cases h4 : (bindB op && !thingS s so) = true
    · rw [if_pos h4] at hc; cases hc
    rw [if_neg h4] at hc
    by_cases h5 : (claimsW s vs (if bindB op then bs ++ [so] else bs) way ts.length 0 ss).2 ≠ 0
    · rw [if_pos h5] at hc; exact absurd hc h5
    rw [if_neg h5] at hc
    rw [tyC]
    refine ⟨⟨p1, p2, p5⟩, ⟨has, hty, fun e => ?_⟩, fun e => ?_, p4, fun _ _ => trivial, fun e => ?_, ty_ofCs s vs ss _ way _ 0 hf (by simpa using h5)⟩
    · subst e
      unfold lastW at hc
      rw [if_pos rfl] at hc
      unfold applyW at hc
      generalize hfi : findF s nm = fi at hc ⊢
      obtain ⟨f, ok⟩ := fi
      simp only at hc
      by_cases hok : (ok && (beqS f.res sBool == true)) = false
      · rw [if_pos hok] at hc; cases hc
      · rw [if_neg hok] at hc
        simp only [Bool.not_eq_false, Bool.and_eq_true, beq_iff_eq] at hok
        obtain ⟨rfl, hres⟩ := hok
        by_cases hle : f.args.length ≠ has.length
        · rw [if_pos hle] at hc; cases hc
        · rw [if_neg hle] at hc
          by_cases hask : (askW way 0 0 has f.args).2 ≠ 0
          · rw [if_pos hask] at hc; exact absurd hc hask
          · exact ⟨f, rfl, hres, askW_eq (Decidable.not_not.1 hle).symm (by simpa using hask)⟩
    · have : arityT op = 2 := by rcases e with rfl | rfl <;> rfl
      have := p3 (by omega)
      omega
    · rw [e] at h4
      simpa using h4
theorem ty_ofCs (s : Sg) (vs : List Va) : ∀ (l : List Cl) (bs : List ByteArray) (way : List Int) (n i : Nat), firstCs l = 0 → (claimsW s vs bs way n i l).2 = 0 → tyCs s vs (fun _ => True) bs l
  | [], _, _, _, _, _, _ => by simp [tyCs]
  | x :: r, bs, way, n, i, hf, hc => by
    rw [firstCs_cons] at hf
    by_cases h1 : firstC x ≠ 0
    · rw [if_pos h1] at hf; exact absurd hf h1
    rw [if_neg h1] at hf
    rw [claimsW_cons] at hc
    by_cases h2 : (claimW s vs bs (way ++ [(n : Int) + i]) x).2 ≠ 0
    · rw [if_pos h2] at hc; exact absurd hc h2
    rw [if_neg h2] at hc
    simp only [tyCs]
    exact ⟨ty_ofC s vs x bs _ (by simpa using h1) (by simpa using h2), ty_ofCs s vs r bs way n (i + 1) hf hc⟩
end
/-! ### whether claims hold -/
def joinV (op : Int) (l : List Bool) : Bool :=
  if op = 6 then !l.getD 0 false else if op = 7 then l.getD 0 false && l.getD 1 false else if op = 8 then l.getD 0 false || l.getD 1 false
  else if op = 9 then !l.getD 0 false || l.getD 1 false else if op = 10 then l.getD 0 false == l.getD 1 false else decide (op = 1)
def lastV (s : Sg) (w : Wd) (op : Int) (nm : ByteArray) (l : List Int) (b : List Bool) : Bool × Int :=
  if op = 3 then (decide ((appV s w nm l).1 = 1), (appV s w nm l).2)
  else if op = 4 then (decide (l.getD 0 0 = l.getD 1 0), 0)
  else if op = 5 then (decide (l.getD 0 0 ≤ l.getD 1 0), 0)
  else (joinV op b, 0)
def bindGo (g : Int → Bool × Int) (all : Bool) : Nat → Int → Bool → Bool × Int
  | 0, _, acc => (acc, 0)
  | k + 1, v, acc => if (g v).2 ≠ 0 then (false, (g v).2) else bindGo g all k (v + 1) (if (g v).1 = all then acc else !all)
mutual
def holdsV (s : Sg) (w : Wd) (vs : List Va) (env : List Bd) : List Int → Cl → Bool × Int
  | bnd, .mk op nm so ts ss =>
    if (valsV s w vs env bnd ts).2 ≠ 0 then (false, (valsV s w vs env bnd ts).2)
    else if bindB op = true then (if beqS so sInt = true then (false, 1) else bindGo (fun v => holdsH s w vs env (bnd ++ [v]) ss) (op == 11) (sizeI s.sorts w.sizes so).toNat 0 (op == 11))
    else if (holdsS s w vs env bnd ss).2 ≠ 0 then (false, (holdsS s w vs env bnd ss).2)
    else lastV s w op nm (valsV s w vs env bnd ts).1 (holdsS s w vs env bnd ss).1
def holdsS (s : Sg) (w : Wd) (vs : List Va) (env : List Bd) : List Int → List Cl → List Bool × Int
  | _, [] => ([], 0)
  | bnd, x :: r => if (holdsV s w vs env bnd x).2 ≠ 0 then ([], (holdsV s w vs env bnd x).2) else if (holdsS s w vs env bnd r).2 ≠ 0 then ([], (holdsS s w vs env bnd r).2) else ((holdsV s w vs env bnd x).1 :: (holdsS s w vs env bnd r).1, 0)
def holdsH (s : Sg) (w : Wd) (vs : List Va) (env : List Bd) : List Int → List Cl → Bool × Int
  | _, [] => (false, 0)
  | bnd, x :: _ => holdsV s w vs env bnd x
end
/-! ### values are values of their sorts -/
theorem inR_snoc {s : Sg} {w : Wd} {x : ByteArray} {v : Int} : ∀ {r : List ByteArray} {l : List Int}, inR s w r l → 0 ≤ v ∧ v < sizeI s.sorts w.sizes x → inR s w (r ++ [x]) (l ++ [v])
  | [], [], _, h => ⟨h, trivial⟩
  | y :: r, z :: l, h, h2 => ⟨h.1, inR_snoc h.2 h2⟩
  | [], _ :: _, h, _ => h.elim
  | _ :: _, [], h, _ => h.elim
theorem inR_pos {s : Sg} {w : Wd} {r : List ByteArray} {l : List Int} (h : inR s w r l) (i : Nat) (hi : i < r.length) : 0 ≤ l.getD i 0 ∧ l.getD i 0 < sizeI s.sorts w.sizes (r.getD i noS) := by
  have hl := inR_len h
  have := inR_get h (List.getElem?_eq_getElem hi) (List.getElem?_eq_getElem (show i < l.length by omega))
  rw [List.getD_eq_getElem?_getD, List.getD_eq_getElem?_getD, List.getElem?_eq_getElem hi, List.getElem?_eq_getElem (show i < l.length by omega)]
  exact this
mutual
theorem val_in {s : Sg} {w : Wd} (h : RoomOK s w) (vs : List Va) (env : List Bd) {bs : List ByteArray} {bnd : List Int} (hb : inR s w bs bnd) : ∀ (t : Tm) (a : ByteArray), tyT s vs bs t a → (valV s w vs env bnd t).2 = 0 → beqS a sInt = false → 0 ≤ (valV s w vs env bnd t).1 ∧ (valV s w vs env bnd t).1 < sizeI s.sorts w.sizes a
  | .mk op nm nu l, a, ht, hv, ha => by
    rw [tyT] at ht
    rw [valV] at hv ⊢
    by_cases h1 : (valsV s w vs env bnd l).2 ≠ 0
    · rw [if_pos h1] at hv; exact absurd hv h1
    rw [if_neg h1] at hv ⊢
    unfold ownV at hv ⊢
    by_cases o1 : op = 1
    · rw [if_pos o1] at ht hv ⊢
      unfold varV at hv ⊢
      rw [ht.2] at hv ⊢
      cases he : env[idx (isB nm) env]? with
      | none => rw [he] at hv; cases hv
      | some b =>
        rw [he] at hv
        simp only at hv ⊢
        by_cases hc : beqS a sInt = false ∧ (b.val < 0 ∨ sizeI s.sorts w.sizes a ≤ b.val)
        · rw [if_pos hc] at hv; cases hv
        · rw [if_neg hc]
          simp only [ha, true_and, not_or] at hc
          simp only
          omega
    rw [if_neg o1] at ht hv ⊢
    by_cases o2 : op = 2
    · rw [if_pos o2] at ht hv ⊢
      obtain ⟨_, h0, h2, rfl⟩ := ht
      have hl := inR_len hb
      have := inR_pos hb (bs.length - 1 - nu.toNat) (by omega)
      rw [← hl] at this ⊢
      exact this
    rw [if_neg o2] at ht hv ⊢
    by_cases o3 : op = 3
    · rw [if_pos o3] at ht hv ⊢
      obtain ⟨f, hf, hres, rfl, hty⟩ := ht
      unfold appV at hv ⊢
      rw [hf] at hv ⊢
      simp only at hv ⊢
      by_cases hw : wholeB f = true
      · rw [if_pos hw] at hv; cases hv
      rw [if_neg hw]
      have hw' : wholeB f = false := by simpa using hw
      have hargs : ∀ x ∈ f.args, beqS x sInt = false := by
        simp only [wholeB, Bool.or_eq_false_iff] at hw'
        intro x hx
        have := List.any_eq_false.1 hw'.2 x hx
        simpa [isS] using this
      have hin := vals_in h vs env hb l f.args hty (by simpa using h1) hargs
      obtain ⟨t, y, ht, a0, hy, hr⟩ := table_at h (findF_get hf) hw' hin
      have e1 : w.tables.getD (idx (hasF nm) s.funs) [] = t := by rw [List.getD_eq_getElem?_getD, ht]; rfl
      have e2 : t.getD (atV s w 0 f.args (valsV s w vs env bnd l).1).toNat 0 = y := by rw [List.getD_eq_getElem?_getD, hy]; rfl
      rw [e1, e2]
      exact hr
    rw [if_neg o3] at ht
    have hs : a = sInt := by
      by_cases o4 : op = 4
      · rw [if_pos o4] at ht; exact ht.2
      · rw [if_neg o4] at ht
        by_cases o5 : op = 5 ∨ op = 6
        · rw [if_pos o5] at ht; exact ht.1
        · rw [if_neg o5] at ht; exact ht.2.1
    rw [hs, beqS_self] at ha
    cases ha
theorem vals_in {s : Sg} {w : Wd} (h : RoomOK s w) (vs : List Va) (env : List Bd) {bs : List ByteArray} {bnd : List Int} (hb : inR s w bs bnd) : ∀ (l : List Tm) (r : List ByteArray), tysT s vs bs l r → (valsV s w vs env bnd l).2 = 0 → (∀ x ∈ r, beqS x sInt = false) → inR s w r (valsV s w vs env bnd l).1
  | [], [], _, _, _ => by simp [valsV, inR]
  | x :: l, a :: r, ht, hv, ha => by
    simp only [tysT] at ht
    simp only [valsV] at hv ⊢
    by_cases c1 : (valV s w vs env bnd x).2 ≠ 0
    · rw [if_pos c1] at hv; exact absurd hv c1
    rw [if_neg c1] at hv ⊢
    by_cases c2 : (valsV s w vs env bnd l).2 ≠ 0
    · rw [if_pos c2] at hv; exact absurd hv c2
    rw [if_neg c2]
    exact ⟨val_in h vs env hb x a ht.1 (by simpa using c1) (ha a (by simp)), vals_in h vs env hb l r ht.2 (by simpa using c2) (fun y hy => ha y (by simp [hy]))⟩
  | [], _ :: _, h, _, _ => by simp [tysT] at h
  | _ :: _, [], h, _, _ => by simp [tysT] at h
end
theorem args_not_int {f : Fu} (hw : wholeB f = false) : ∀ x ∈ f.args, beqS x sInt = false := by
  simp only [wholeB, Bool.or_eq_false_iff] at hw
  intro x hx
  have := List.any_eq_false.1 hw.2 x hx
  simpa [isS] using this
end Go.Eng
