-- own work: an evaluator of the program's code, and what it answers
import Derived.Test.YtdmoipccmbimhaaGreatDoorZ14
/- Whether a claim holds in a world: the reference, all of it. -/
set_option maxRecDepth 100000
set_option linter.unusedVariables false
set_option linter.unusedSimpArgs false
namespace Go.Eng
open Go Go.Proofs
set_option maxHeartbeats 16000000 in
theorem rholds_ev (s : Sg) (w : Wd) (vs : List Va) (env : List Bd) (h : RoomOK s w) (hN : NumOK w vs env) :
    ∀ (d : Nat) (c : Cl) (bs : List ByteArray) (bnd : List Int), depC c ≤ d → okC c → tyC s vs (fun _ => True) bs c → inR s w bs bnd → bs.length + d ≤ 50000 → RClaimOK s w vs env bnd c
  | 0, c, _, _, hd, _, _, _, _ => by cases c; simp [depC] at hd
  | d + 1, c, bs, bnd, hd, hokc, hty, hin, hbl => by
    intro ro m hro
    have hro1 : ro ≤ m.length + 1 := by omega
    have hlen := inR_len hin
    obtain ⟨⟨p1, p2, p3⟩, ⟨has, q1, q2⟩, q3, q4, q5, q6, q7⟩ : (1 ≤ c.op ∧ c.op ≤ 12 ∧ (c.ss.length : Int) = arityS c.op) ∧ (∃ has, tysT s vs bs c.ts has ∧ (c.op = 3 → ∃ f, findF s c.nm = (f, true) ∧ beqS f.res sBool = true ∧ has = f.args)) ∧ (c.op = 4 ∨ c.op = 5 → c.ts.length = 2) ∧ c.ts.length ≤ 8 ∧ (∀ x ∈ c.ts, (fun _ => True) x) ∧ (bindB c.op = true → thingS s c.so = true) ∧ tyCs s vs (fun _ => True) (if bindB c.op then bs ++ [c.so] else bs) c.ss := by
      cases c; rw [tyC] at hty; exact hty
    have hds : ∀ x ∈ c.ss, depC x ≤ d := fun x hx => by
      have := depCs_le hx
      rw [depC_eq] at hd
      omega
    have hl : c.ts.length ≤ 100000 := by omega
    have htd : ∀ x ∈ c.ts, RTermOK s w vs env bnd x := fun x hx => by
      obtain ⟨a, ha⟩ := tysT_mem q1 x hx
      exact rterm_ev s w vs env h hN (depT x) x bs bnd a (Nat.le_refl _) (hokc.arg.1 x hx) ha hin (by omega)
    rw [holdsV_eq]
    refine evL_by (n := 188) (by kernel_rfl) rfl fn53 rfl rfl rfl rfl ?_
    simp only [go_sem, ↓reduceIte, hro, hro1]
    generalize hL : loopW _ _ = L
    obtain ⟨⟨i, out⟩, ⟨k1, k2, k3⟩, hE, rfl⟩ := loopW_at hL (fun (q : Nat × List Int) => [(13, .tip (if q.1 = 0 then none else some 1) (q.2.map cI)), (14, .c (.v (.int .i64 q.1)))]) (fun _ => [(12, boxTr0)] :: m)
      (fun q => q.1 ≤ c.ts.length ∧ q.2.length = q.1 ∧ valsV s w vs env bnd c.ts = restV s w vs env bnd q.2 (c.ts.drop q.1))
      (fun q => q.1 = c.ts.length ∨ ∃ x, c.ts[q.1]? = some x ∧ (valV s w vs env bnd x).2 ≠ 0) (fun q => c.ts.length - q.1) (0, []) rfl rfl ⟨by simp, rfl, by simp [restV_0]⟩ (by
      rintro ⟨i, out⟩ ⟨k1, k2, k3⟩ hE
      simp only [not_or, not_exists, not_and] at hE k1 k2 k3
      obtain ⟨k4, k5⟩ := hE
      obtain ⟨x, hx⟩ : ∃ x, c.ts[i]? = some x := ⟨_, List.getElem?_eq_getElem (by omega)⟩
      have c1 : decide ((i : Int) < (c.ts.length : Int)) = true := dec_t (by omega)
      have c3 : IntKind.i64.wrap ((i : Int) + 1) = ((i + 1 : Nat) : Int) := wrap64 (by omega) (by omega)
      have hc := htd x (List.mem_of_getElem? hx)
      unfold RTermOK at hc
      have k6 := k5 x hx
      have hrest := restV_good (out := out) (r := c.ts.drop (i + 1)) k6
      generalize valV s w vs env bnd x = q at hc k6 hrest
      obtain ⟨v, e⟩ := q
      simp only at k6 hrest
      have c2 : (e != 0) = false := by simpa using k6
      have c4 : (i + 1 = 0) = False := by simp
      have c5 : (out.length + 1) * 8 ≤ 140737488355328 := by omega
      have c6 : out.length + 1 ≤ 9223372036854775807 := by omega
      refine ⟨(i + 1, out ++ [v]), ⟨by simp only; omega, by simp [k2], ?_⟩, by simp only; omega, ?_⟩
      · rw [k3, drop_get hx, hrest]
      · have hos : (if i = 0 then none else some 1 : Option Nat) = none ∨ (if i = 0 then none else some 1 : Option Nat) = some 1 := by split <;> simp
        rw [round_go]
        simp only
        generalize (if i = 0 then none else some 1 : Option Nat) = os at hos ⊢
        simp only [go_sem, ↓reduceIte, c1, c2, c3, c4, c5, c6, hos, hx, hc, encVal, hro1, hro]
        rw [← map_snoc]; rfl)
    clear hL
    simp only at k1 k2 k3 hE
    rw [loopW_go]
    by_cases hi : ¬ i = c.ts.length
    · obtain ⟨x, hx, hbad⟩ := hE.resolve_left hi
      have hil := (List.getElem?_eq_some_iff.1 hx).1
      have c1 : decide ((i : Int) < (c.ts.length : Int)) = true := dec_t (by omega)
      have hc := htd x (List.mem_of_getElem? hx)
      unfold RTermOK at hc
      rw [k3, drop_get hx, restV_bad hbad, if_pos hbad]
      generalize valV s w vs env bnd x = q at hc hbad ⊢
      obtain ⟨v, e⟩ := q
      simp only at hbad
      have c2 : (e != 0) = true := by simpa using hbad
      simp only [go_sem, ↓reduceIte, c1, c2, hx, hc, encVal, encTr, hro1, hro]
    have hi := Decidable.not_not.1 hi
    have c1 : decide ((i : Int) < (c.ts.length : Int)) = false := dec_f (by omega)
    rw [List.drop_eq_nil_of_le (show c.ts.length ≤ i by omega), restV_nil] at k3
    have hvl := valsV_len (s := s) (w := w) (vs := vs) (env := env) (bnd := bnd) (l := c.ts) (by rw [k3])
    have hvin := fun (f : Fu) (hf : has = f.args) (hw : wholeB f = false) => vals_in h vs env hin c.ts f.args (by rw [← hf]; exact q1) (by rw [k3]) (args_not_int hw)
    rw [k3] at hvl hvin ⊢
    simp only at hvl hvin
    rw [if_neg (show ¬ ((out, (0 : Int)).2 ≠ 0) by simp)]
    dsimp only
    clear hE k3
    generalize (if i = 0 then none else some 1 : Option Nat) = os
    by_cases hb : bindB c.op = true
    · rw [if_pos hb]
      rw [if_pos hb] at q7
      have hb' : c.op = 11 ∨ c.op = 12 := by simpa [bindB] using hb
      have h1 : c.ss.length = 1 := by
        have : arityS c.op = 1 := by rcases hb' with h | h <;> rw [h] <;> rfl
        omega
      obtain ⟨x, hx⟩ := len_one h1
      have hsub : ∀ v : Int, 0 ≤ v → v < sizeI s.sorts w.sizes c.so → RClaimOK s w vs env (bnd ++ [v]) x := fun v v0 v1 =>
        rholds_ev s w vs env h hN d x (bs ++ [c.so]) (bnd ++ [v]) (hds x (by rw [hx]; simp)) (hokc.arg.2 x (by rw [hx]; simp)) (tyCs_mem q7 x (by rw [hx]; simp)) (inR_snoc hin ⟨v0, v1⟩) (by simp; omega)
      have hbi := fun ro m hro => rbinder_ev s w vs env bnd h c x hx hb' (by omega) hsub ro m hro
      have hH : (fun v => holdsH s w vs env (bnd ++ [v]) c.ss) = fun v => holdsV s w vs env (bnd ++ [v]) x := by funext v; rw [hx, holdsH]
      rw [hH]
      generalize (if beqS c.so sInt = true then (false, (1 : Int)) else bindGo (fun v => holdsV s w vs env (bnd ++ [v]) x) (c.op == 11) (sizeI s.sorts w.sizes c.so).toNat 0 (c.op == 11)) = r at hbi ⊢
      obtain ⟨rb, re⟩ := r
      rcases hb' with h11 | h12
      · have e1 : (c.op == 11) = true := beq_t h11
        simp only [go_sem, ↓reduceIte, c1, e1, hbi, encTr, hro1, hro]
      · have e1 : (c.op == 11) = false := beq_f (by omega)
        have e2 : (c.op == 12) = true := beq_t h12
        simp only [go_sem, ↓reduceIte, c1, e1, e2, hbi, encTr, hro1, hro]
    rw [if_neg hb]
    rw [if_neg hb] at q7
    have hb' : c.op ≠ 11 ∧ c.op ≠ 12 := by simpa [bindB] using hb
    have e11 : (c.op == 11) = false := beq_f hb'.1
    have e12 : (c.op == 12) = false := beq_f hb'.2
    have hss2 : c.ss.length ≤ 2 := by
      have : arityS c.op ≤ 2 := by unfold arityS; split <;> (try split) <;> omega
      omega
    have hsubs : ∀ x ∈ c.ss, RClaimOK s w vs env bnd x := fun x hx => rholds_ev s w vs env h hN d x bs bnd (hds x hx) (hokc.arg.2 x hx) (tyCs_mem q7 x hx) hin (by omega)
    simp only [go_sem, ↓reduceIte, c1, e11, e12, hro1, hro]
    generalize hL : loopW _ _ = L
    obtain ⟨⟨j, bo⟩, ⟨j1, j2, j3⟩, jE, rfl⟩ := loopW_at hL (fun (q : Nat × List Bool) => [(16, .tip (if q.1 = 0 then none else some 1) (q.2.map cBo)), (17, .c (.v (.int .i64 q.1)))]) (fun _ => [(12, boxTr0)] :: m)
      (fun q => q.1 ≤ c.ss.length ∧ q.2.length = q.1 ∧ holdsS s w vs env bnd c.ss = restH s w vs env bnd q.2 (c.ss.drop q.1))
      (fun q => q.1 = c.ss.length ∨ ∃ x, c.ss[q.1]? = some x ∧ (holdsV s w vs env bnd x).2 ≠ 0) (fun q => c.ss.length - q.1) (0, []) rfl rfl ⟨by simp, rfl, by simp [restH_0]⟩ (by
      rintro ⟨j, bo⟩ ⟨j1, j2, j3⟩ jE
      simp only [not_or, not_exists, not_and] at jE j1 j2 j3
      obtain ⟨j4, j5⟩ := jE
      obtain ⟨x, hx⟩ : ∃ x, c.ss[j]? = some x := ⟨_, List.getElem?_eq_getElem (by omega)⟩
      have c1 : decide ((j : Int) < (c.ss.length : Int)) = true := dec_t (by omega)
      have c3 : IntKind.i64.wrap ((j : Int) + 1) = ((j + 1 : Nat) : Int) := wrap64 (by omega) (by omega)
      have hc := hsubs x (List.mem_of_getElem? hx)
      unfold RClaimOK at hc
      have k6 := j5 x hx
      have hrest := restH_good (out := bo) (r := c.ss.drop (j + 1)) k6
      generalize holdsV s w vs env bnd x = q at hc k6 hrest
      obtain ⟨v, e⟩ := q
      simp only at k6 hrest
      have c2 : (e != 0) = false := by simpa using k6
      have c4 : (j + 1 = 0) = False := by simp
      have c5 : (bo.length + 1) * 1 ≤ 140737488355328 := by omega
      have c7 : bo.length + 1 ≤ 140737488355328 := by omega
      have c6 : bo.length + 1 ≤ 9223372036854775807 := by omega
      refine ⟨(j + 1, bo ++ [v]), ⟨by simp only; omega, by simp [j2], ?_⟩, by simp only; omega, ?_⟩
      · rw [j3, drop_get hx, hrest]
      · have hos : (if j = 0 then none else some 1 : Option Nat) = none ∨ (if j = 0 then none else some 1 : Option Nat) = some 1 := by split <;> simp
        rw [round_go]
        simp only
        generalize (if j = 0 then none else some 1 : Option Nat) = os at hos ⊢
        simp only [go_sem, ↓reduceIte, c1, c2, c3, c4, c5, c6, c7, hos, hx, hc, encTr, hro1, hro]
        rw [← map_snoc]; rfl)
    clear hL
    simp only at j1 j2 j3 jE
    rw [loopW_go]
    by_cases hj : ¬ j = c.ss.length
    · obtain ⟨x, hx, hbad⟩ := jE.resolve_left hj
      have hil := (List.getElem?_eq_some_iff.1 hx).1
      have c1 : decide ((j : Int) < (c.ss.length : Int)) = true := dec_t (by omega)
      have hc := hsubs x (List.mem_of_getElem? hx)
      unfold RClaimOK at hc
      have hf := holdsV_err x hbad
      rw [j3, drop_get hx, restH_bad hbad, if_pos hbad]
      generalize holdsV s w vs env bnd x = q at hc hbad hf ⊢
      obtain ⟨v, e⟩ := q
      simp only at hbad hf
      subst hf
      have c2 : (e != 0) = true := by simpa using hbad
      simp only [go_sem, ↓reduceIte, c1, c2, hx, hc, encTr, hro1, hro]
    have hj := Decidable.not_not.1 hj
    have c1 : decide ((j : Int) < (c.ss.length : Int)) = false := dec_f (by omega)
    rw [j3, List.drop_eq_nil_of_le (show c.ss.length ≤ j by omega), restH_nil]
    rw [if_neg (show ¬ ((bo, (0 : Int)).2 ≠ 0) by simp)]
    dsimp only
    clear jE j3
    generalize (if j = 0 then none else some 1 : Option Nat) = os2
    unfold lastV
    by_cases o3 : c.op = 3
    · rw [if_pos o3]
      obtain ⟨f, hf, _, hhas⟩ := q2 o3
      have e3 : (c.op == 3) = true := beq_t o3
      have hfg := findF_get hf
      have hlt := (List.getElem?_eq_some_iff.1 hfg).1
      have hpl := fun ro m => place_ev s c.nm h.hs.funs ro m
      rw [if_pos hlt] at hpl
      have hri := fun ro m => rints_ev f (h.hs.fun_ f (List.mem_of_getElem? hfg)).args ro m
      unfold appV
      rw [hf]
      simp only
      cases hw : wholeB f with
      | true =>
        rw [hw] at hri
        rw [if_pos rfl]
        generalize idx (hasF c.nm) s.funs = k at hfg hpl
        simp only [go_sem, ↓reduceIte, c1, e3, hpl, hfg, hri, encTr, hro1, hro]
        try rfl
      | false =>
        rw [hw] at hri
        have hlk := fun ro m hro => look_ev s w h (idx (hasF c.nm) s.funs) f hfg hw out (hvin f hhas hw) ro m hro
        rw [if_neg (show ¬ (false = true) by simp)]
        generalize (w.tables.getD (idx (hasF c.nm) s.funs) []).getD (atV s w 0 f.args out).toNat 0 = z at hlk ⊢
        generalize idx (hasF c.nm) s.funs = k at hfg hpl hlk
        have e1 : (z == 1) = decide (z = 1) := rfl
        simp only [go_sem, ↓reduceIte, c1, e3, hpl, hfg, hri, hlk, e1, encTr, hro1, hro]
    have e3 : (c.op == 3) = false := beq_f o3
    rw [if_neg o3]
    by_cases o4 : c.op = 4
    · obtain ⟨a, b, rfl⟩ := len_two (hvl.trans (q3 (.inl o4)))
      have e4 : (c.op == 4) = true := beq_t o4
      have e5 : (a == b) = decide (a = b) := rfl
      rw [if_pos o4]
      simp only [go_sem, ↓reduceIte, c1, e3, e4, e5, encTr, hro1, hro, List.map_cons, List.map_nil, List.getD_cons_zero, List.getD_cons_succ, Int.reduceLE]
      try rfl
    have e4 : (c.op == 4) = false := beq_f o4
    rw [if_neg o4]
    by_cases o5 : c.op = 5
    · obtain ⟨a, b, rfl⟩ := len_two (hvl.trans (q3 (.inr o5)))
      have e5 : (c.op == 5) = true := beq_t o5
      rw [if_pos o5]
      simp only [go_sem, ↓reduceIte, c1, e3, e4, e5, encTr, hro1, hro, List.map_cons, List.map_nil, List.getD_cons_zero, List.getD_cons_succ, Int.reduceLE]
      try rfl
    have e5 : (c.op == 5) = false := beq_f o5
    rw [if_neg o5]
    have hbl2 : bo.length = c.ss.length := by omega
    unfold joinV
    by_cases o6 : c.op = 6
    · have : arityS c.op = 1 := by rw [o6]; rfl
      obtain ⟨a, rfl⟩ := len_one (show bo.length = 1 by omega)
      have e6 : (c.op == 6) = true := beq_t o6
      rw [if_pos o6]
      simp only [go_sem, ↓reduceIte, c1, e3, e4, e5, e6, encTr, hro1, hro, List.map_cons, List.map_nil, List.getD_cons_zero, cBo]
      try rfl
    have e6 : (c.op == 6) = false := beq_f o6
    rw [if_neg o6]
    by_cases o7 : c.op = 7
    · have : arityS c.op = 2 := by rw [o7]; rfl
      obtain ⟨a, b, rfl⟩ := len_two (show bo.length = 2 by omega)
      have e7 : (c.op == 7) = true := beq_t o7
      rw [if_pos o7]
      cases a <;> simp only [go_sem, ↓reduceIte, c1, e3, e4, e5, e6, e7, encTr, hro1, hro, List.map_cons, List.map_nil, List.getD_cons_zero, List.getD_cons_succ, cBo, Int.reduceLE, Bool.true_and, Bool.false_and]
    have e7 : (c.op == 7) = false := beq_f o7
    rw [if_neg o7]
    by_cases o8 : c.op = 8
    · have : arityS c.op = 2 := by rw [o8]; rfl
      obtain ⟨a, b, rfl⟩ := len_two (show bo.length = 2 by omega)
      have e8 : (c.op == 8) = true := beq_t o8
      rw [if_pos o8]
      cases a <;> simp only [go_sem, ↓reduceIte, c1, e3, e4, e5, e6, e7, e8, encTr, hro1, hro, List.map_cons, List.map_nil, List.getD_cons_zero, List.getD_cons_succ, cBo, Int.reduceLE, Bool.true_or, Bool.false_or]
    have e8 : (c.op == 8) = false := beq_f o8
    rw [if_neg o8]
    by_cases o9 : c.op = 9
    · have : arityS c.op = 2 := by rw [o9]; rfl
      obtain ⟨a, b, rfl⟩ := len_two (show bo.length = 2 by omega)
      have e9 : (c.op == 9) = true := beq_t o9
      rw [if_pos o9]
      cases a <;> simp only [go_sem, ↓reduceIte, c1, e3, e4, e5, e6, e7, e8, e9, encTr, hro1, hro, List.map_cons, List.map_nil, List.getD_cons_zero, List.getD_cons_succ, cBo, Int.reduceLE, Bool.not_true, Bool.not_false, Bool.true_or, Bool.false_or]
    have e9 : (c.op == 9) = false := beq_f o9
    rw [if_neg o9]
    by_cases o10 : c.op = 10
    · have : arityS c.op = 2 := by rw [o10]; rfl
      obtain ⟨a, b, rfl⟩ := len_two (show bo.length = 2 by omega)
      have e10 : (c.op == 10) = true := beq_t o10
      rw [if_pos o10]
      simp only [go_sem, ↓reduceIte, c1, e3, e4, e5, e6, e7, e8, e9, e10, encTr, hro1, hro, List.map_cons, List.map_nil, List.getD_cons_zero, List.getD_cons_succ, cBo, Int.reduceLE]
    have e10 : (c.op == 10) = false := beq_f o10
    rw [if_neg o10]
    have e1 : (c.op == 1) = decide (c.op = 1) := rfl
    simp only [go_sem, ↓reduceIte, c1, e3, e4, e5, e6, e7, e8, e9, e10, e1, encTr, hro1, hro]
end Go.Eng
