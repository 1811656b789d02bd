-- own work: an evaluator of the program's code, and what it answers
import Derived.Test.YtdmoipccmbimhaaGreatDoorRA
set_option maxRecDepth 100000
set_option linter.unusedVariables false
set_option linter.unusedSimpArgs false
namespace Go.Eng
open Go Go.Proofs
abbrev boxG0 : Box := [.c (.v (.string ByteArray.empty)), .tip none [], .c (.v (.int .i64 0))]
theorem termW_one (s : Sg) (vs : List Va) (bs : List ByteArray) (i : Int) (x : Tm) : termW s vs bs ([] ++ [i]) x = preA [i] (termW s vs bs [] x) := termW_pre s vs bs [i] _ x [] (Nat.le_refl _)
/-- a way is no longer than a term is deep -/
theorem askW_len (frm : Int) : ∀ (i : Nat) (a b : List ByteArray), (askW [] frm i a b).1.length ≤ 1
  | i, [], b => by simp [askW]
  | i, _ :: _, [] => by simp [askW]
  | i, h :: hs, w :: ws => by
    simp only [askW]
    split
    · exact askW_len frm (i + 1) hs ws
    · simp
theorem askW_zero (way : List Int) (frm : Int) : ∀ (i : Nat) (a b : List ByteArray), (askW way frm i a b).2 = 0 → (askW way frm i a b).1 = []
  | i, [], b, h => by simp [askW]
  | i, _ :: _, [], h => by simp [askW]
  | i, x :: hs, w :: ws, h => by
    simp only [askW] at h ⊢
    split at h
    · rename_i h1; rw [if_pos h1]; exact askW_zero way frm (i + 1) hs ws h
    · cases h
theorem applyW_len (f : Fu) (ok : Bool) (has : List ByteArray) : (applyW [] f ok has).2.1.length ≤ 1 := by
  unfold applyW
  split
  · simp
  · split
    · simp
    · split
      · exact askW_len 0 0 has f.args
      · simp
theorem ownW_len (s : Sg) (vs : List Va) (bs : List ByteArray) (op : Int) (nm : ByteArray) (nu : Int) (has : List ByteArray) : (ownW s vs bs [] op nm nu has).2.1.length ≤ 1 := by
  unfold ownW
  split
  · cases sortOf vs nm <;> simp
  · split
    · split <;> simp
    · split
      · exact applyW_len _ _ has
      · split
        · exact askW_len 0 0 has _
        · simp
theorem preA_len (p : List Int) (x : Ans) : (preA p x).2.1.length ≤ p.length + x.2.1.length := by
  unfold preA; split
  · simp
  · omega
theorem termW_len (s : Sg) (vs : List Va) (bs : List ByteArray) : ∀ (d : Nat) (t : Tm), fitT d t → (termW s vs bs [] t).2.1.length ≤ d + 1
  | 0, t, h => by cases h
  | d + 1, t, h => by
    have key : ∀ (l : List Tm) (i : Nat), (∀ x ∈ l, fitT d x) → (allW s vs bs [] i l).2.1.length ≤ d + 2 := by
      intro l
      induction l with
      | nil => intro i _; simp [allW]
      | cons x r ih =>
        intro i hx
        simp only [allW]
        split
        · have h1 := termW_len s vs bs d x (hx x (by simp))
          have h2 := preA_len [(i : Int)] (termW s vs bs [] x)
          rw [termW_one]
          simp only [List.length_singleton] at h2
          show (preA [(i : Int)] (termW s vs bs [] x)).2.1.length ≤ d + 2
          omega
        · split
          · exact ih (i + 1) (fun y hy => hx y (by simp [hy]))
          · simp
    rw [termW_eq]
    have hk := key t.l 0 (fun x hx => h.arg hx)
    have ho := ownW_len s vs bs t.op t.nm t.nu (allW s vs bs [] 0 t.l).1
    split
    · exact hk
    · omega
set_option maxHeartbeats 16000000 in
theorem within_ev (s : Sg) (vs : List Va) (bs : List ByteArray) (hs : s.funs.length ≤ maxLen) (hv : vs.length ≤ maxLen) (hb : bs.length ≤ 100000) : ∀ (d : Nat) (t : Tm), fitT d t → d ≤ 1000 → ∀ (ro : Nat) (m : Mem), ro ≤ m.length →
    evL Tryz.prog An ro 61 [.c (encS s), .c (.sl (vs.map encV)), .c (.sl (bs.map cS)), .c (encT t)] m = some (.c (encG (termW s vs bs [] t)), m)
  | 0, t, ht, _, _, _, _ => by cases ht
  | d + 1, t, ht, hd, ro, m, hro => by
    have hl8 : t.l.length ≤ 8 := by cases ht; assumption
    have hnu : t.op = 2 → 0 ≤ t.nu := by cases ht; assumption
    have h2r : t.op ≠ 3 → t.l.length ≤ 2 := by cases ht; assumption
    have hro1 : ro ≤ m.length + 1 := by omega
    have hsub := fun (x : Tm) (hx : x ∈ t.l) (ro : Nat) (m : Mem) (hro : ro ≤ m.length) => within_ev s vs bs hs hv hb d x (ht.arg hx) (by omega) ro m hro
    have hlen := fun (x : Tm) (hx : x ∈ t.l) => termW_len s vs bs d x (ht.arg hx)
    have hok := fun (h : (allW s vs bs [] 0 t.l).2.2 = 0) => allW_ok h
    rw [termW_eq, ← restW_0]
    refine evL_by (n := 129) (by kernel_rfl) rfl fn61 rfl rfl rfl rfl ?_
    by_cases he : (allW s vs bs [] 0 t.l).2.2 ≠ 0
    · rw [restW_0, if_pos he, ← restW_0]
      simp only [go_sem, ↓reduceIte]
      generalize hL : loopW _ _ = L
      obtain ⟨⟨i, out⟩, ⟨k1, k2, k3⟩, hE, rfl⟩ := loopW_at hL (fun (q : Nat × List ByteArray) => [(9, .tip (if q.1 = 0 then none else some 1) (q.2.map cS)), (10, .c (.v (.int .i64 q.1)))]) (fun _ => [(8, boxG0)] :: m)
        (fun q => q.1 ≤ t.l.length ∧ q.2.length = q.1 ∧ restW s vs bs [] 0 [] t.l = restW s vs bs [] q.1 q.2 (t.l.drop q.1))
        (fun q => q.1 = t.l.length ∨ ∃ x, t.l[q.1]? = some x ∧ (termW s vs bs [] x).2.2 ≠ 0) (fun q => t.l.length - q.1) (0, []) rfl rfl ⟨by simp, rfl, by simp⟩ (by
        rintro ⟨i, out⟩ ⟨k1, k2, k3⟩ hE
        simp only [not_or, not_exists, not_and] at hE k1 k2 k3
        obtain ⟨k4, k5⟩ := hE
        obtain ⟨x, hx⟩ : ∃ x, t.l[i]? = some x := ⟨_, List.getElem?_eq_getElem (by omega)⟩
        have c1 : decide ((i : Int) < (t.l.length : Int)) = true := dec_t (by omega)
        have c3 : IntKind.i64.wrap ((i : Int) + 1) = ((i + 1 : Nat) : Int) := wrap64 (by omega) (by omega)
        have hc := fun ro m hro => hsub x (List.mem_of_getElem? hx) ro m hro
        have k6 := k5 x hx
        have hgood : ¬ (termW s vs bs ([] ++ [(i : Int)]) x).2.2 ≠ 0 := by rw [termW_one]; unfold preA; rw [if_neg k6]; exact k6
        have hrest := restW_good (out := out) (r := t.l.drop (i + 1)) hgood
        have hsame : (termW s vs bs ([] ++ [(i : Int)]) x).1 = (termW s vs bs [] x).1 := by rw [termW_one]; unfold preA; rw [if_neg k6]
        rw [hsame] at hrest
        generalize termW s vs bs [] x = q at hc k6 hrest
        obtain ⟨so, at_, e⟩ := q
        simp only at k6 hrest
        have c2 : (e != 0) = false := by simpa using k6
        have c4 : (i + 1 = 0) = False := by simp
        have c5 : (out.length + 1) * 16 ≤ 140737488355328 := by omega
        have c6 : out.length + 1 ≤ 9223372036854775807 := by omega
        refine ⟨(i + 1, out ++ [so]), ⟨by simp only; omega, by simp [k2], ?_⟩, by simp only; omega, ?_⟩
        · rw [k3, drop_get hx, hrest]
        · have hos : (if i = 0 then none else some 1 : Option Nat) = none ∨ (if i = 0 then none else some 1 : Option Nat) = some 1 := by split <;> simp
          rw [round_go]
          simp only
          generalize (if i = 0 then none else some 1 : Option Nat) = os at hos ⊢
          simp only [go_sem, ↓reduceIte, c1, c2, c3, c4, c5, c6, hos, hx, hc, encG, S_snoc, hro1, hro])
      clear hL
      simp only at k1 k2 k3 hE
      rw [loopW_go]
      rcases hE with rfl | ⟨x, hx, hbad⟩
      · exact absurd (by rw [← restW_0, k3, List.drop_length, restW_nil]) he
      · have hil := (List.getElem?_eq_some_iff.1 hx).1
        have c1 : decide ((i : Int) < (t.l.length : Int)) = true := dec_t (by omega)
        have hc := fun ro m hro => hsub x (List.mem_of_getElem? hx) ro m hro
        have hln := hlen x (List.mem_of_getElem? hx)
        have hbad' : (termW s vs bs ([] ++ [(i : Int)]) x).2.2 ≠ 0 := by rw [termW_one]; unfold preA; rw [if_pos hbad]; exact hbad
        rw [k3, drop_get hx, restW_bad hbad', termW_one]
        generalize termW s vs bs [] x = q at hc hbad hln ⊢
        obtain ⟨so, at_, e⟩ := q
        simp only at hbad hln
        have c2 : (e != 0) = true := by simpa using hbad
        have hah := fun ro m => ahead_ev (i : Int) at_ (by omega) ro m
        have hp : preA [(i : Int)] (so, at_, e) = (so, (i : Int) :: at_, e) := by unfold preA; rw [if_pos hbad]; rfl
        rw [hp]
        simp only [go_sem, ↓reduceIte, c1, c2, hx, hc, hah, encG, noS, hro, hro1]
    · have he0 : (allW s vs bs [] 0 t.l).2.2 = 0 := by simpa using he
      obtain ⟨hl, hat⟩ := hok he0
      rw [restW_0, if_neg he]
      obtain ⟨os, hos⟩ : ∃ os, os = if t.l.length = 0 then none else some 1 := ⟨_, rfl⟩
      refine cut ⟨[.c (encS s), .c (.sl (vs.map encV)), .c (.sl (bs.map cS)), .c (encT t), .c (.fp [.sl (s.sorts.map cS), .sl (s.funs.map encF)]), .undef, .undef, boxTerm t, .p m.length 8 0] ++ List.replicate 120 .undef, [(8, boxG0)] :: m⟩ rfl (by simp only [go_sem, ↓reduceIte, upS_n, leL_nil, leL_cons, or_true, true_or, and_self]) ?_
      refine cut ⟨[.c (encS s), .c (.sl (vs.map encV)), .c (.sl (bs.map cS)), .c (encT t), .c (.fp [.sl (s.sorts.map cS), .sl (s.funs.map encF)]), .undef, .undef, boxTerm t, .p m.length 8 0, .tip none []] ++ List.replicate 119 .undef, [(8, boxG0)] :: m⟩ rfl (by simp only [go_sem, ↓reduceIte, upS_n, leL_nil, leL_cons, or_true, true_or, and_self]) ?_
      refine cut ⟨[.c (encS s), .c (.sl (vs.map encV)), .c (.sl (bs.map cS)), .c (encT t), .c (.fp [.sl (s.sorts.map cS), .sl (s.funs.map encF)]), .undef, .undef, boxTerm t, .p m.length 8 0, .tip os ((allW s vs bs [] 0 t.l).1.map cS)] ++ List.replicate 119 .undef, [(8, boxG0)] :: m⟩ rfl ?_ ?_
      · simp only [go_sem, ↓reduceIte]
        generalize hL : loopW _ _ = L
        obtain ⟨⟨i, out⟩, ⟨k1, k2, k3⟩, hE, rfl⟩ := loopW_at hL (fun (q : Nat × List ByteArray) => [(9, .tip (if q.1 = 0 then none else some 1) (q.2.map cS)), (10, .c (.v (.int .i64 q.1)))]) (fun _ => [(8, boxG0)] :: m)
          (fun q => q.1 ≤ t.l.length ∧ q.2.length = q.1 ∧ restW s vs bs [] 0 [] t.l = restW s vs bs [] q.1 q.2 (t.l.drop q.1))
          (fun q => q.1 = t.l.length ∨ ∃ x, t.l[q.1]? = some x ∧ (termW s vs bs [] x).2.2 ≠ 0) (fun q => t.l.length - q.1) (0, []) rfl rfl ⟨by simp, rfl, by simp⟩ (by
          rintro ⟨i, out⟩ ⟨k1, k2, k3⟩ hE
          simp only [not_or, not_exists, not_and] at hE k1 k2 k3
          obtain ⟨k4, k5⟩ := hE
          obtain ⟨x, hx⟩ : ∃ x, t.l[i]? = some x := ⟨_, List.getElem?_eq_getElem (by omega)⟩
          have c1 : decide ((i : Int) < (t.l.length : Int)) = true := dec_t (by omega)
          have c3 : IntKind.i64.wrap ((i : Int) + 1) = ((i + 1 : Nat) : Int) := wrap64 (by omega) (by omega)
          have hc := fun ro m hro => hsub x (List.mem_of_getElem? hx) ro m hro
          have k6 := k5 x hx
          have hgood : ¬ (termW s vs bs ([] ++ [(i : Int)]) x).2.2 ≠ 0 := by rw [termW_one]; unfold preA; rw [if_neg k6]; exact k6
          have hrest := restW_good (out := out) (r := t.l.drop (i + 1)) hgood
          have hsame : (termW s vs bs ([] ++ [(i : Int)]) x).1 = (termW s vs bs [] x).1 := by rw [termW_one]; unfold preA; rw [if_neg k6]
          rw [hsame] at hrest
          generalize termW s vs bs [] x = q at hc k6 hrest
          obtain ⟨so, at_, e⟩ := q
          simp only at k6 hrest
          have c2 : (e != 0) = false := by simpa using k6
          have c4 : (i + 1 = 0) = False := by simp
          have c5 : (out.length + 1) * 16 ≤ 140737488355328 := by omega
          have c6 : out.length + 1 ≤ 9223372036854775807 := by omega
          refine ⟨(i + 1, out ++ [so]), ⟨by simp only; omega, by simp [k2], ?_⟩, by simp only; omega, ?_⟩
          · rw [k3, drop_get hx, hrest]
          · have hos : (if i = 0 then none else some 1 : Option Nat) = none ∨ (if i = 0 then none else some 1 : Option Nat) = some 1 := by split <;> simp
            rw [round_go]
            simp only
            generalize (if i = 0 then none else some 1 : Option Nat) = os at hos ⊢
            simp only [go_sem, ↓reduceIte, c1, c2, c3, c4, c5, c6, hos, hx, hc, encG, S_snoc, hro1, hro])
        clear hL
        simp only at k1 k2 k3 hE
        rw [loopW_go]
        have hi : i = t.l.length := by
          rcases hE with h | ⟨x, hx, hbad⟩
          · exact h
          · have hbad' : (termW s vs bs ([] ++ [(i : Int)]) x).2.2 ≠ 0 := by rw [termW_one]; unfold preA; rw [if_pos hbad]; exact hbad
            rw [← restW_0, k3, drop_get hx, restW_bad hbad'] at he0
            exact absurd he0 hbad'
        subst hi
        have c1 : decide ((t.l.length : Int) < (t.l.length : Int)) = false := dec_f (by omega)
        have ho : out = (allW s vs bs [] 0 t.l).1 := by
          rw [← restW_0, k3, List.drop_length, restW_nil]
        subst hos
        rw [← ho]
        simp only [go_sem, ↓reduceIte, c1, upS_n, leL_nil, leL_cons, or_true, true_or, and_self]
      · generalize allW s vs bs [] 0 t.l = q at hl hat ⊢
        obtain ⟨has, at_, e⟩ := q
        simp only at hl hat
        clear hos he he0 hok hsub hlen
        unfold ownW
        by_cases o1 : t.op = 1
        · have d1 : (t.op == 1) = true := by simp [o1]
          have hso := fun ro m => rsort_ev vs t.nm hv ro m
          rw [if_pos o1]
          generalize sortOf vs t.nm = so at hso ⊢
          cases so with
          | none => simp only [go_sem, ↓reduceIte, d1, hso, encO, encG, noS, hro, hro1]
          | some so => simp only [go_sem, ↓reduceIte, d1, hso, encO, encG, noS, hro, hro1]
        · have d1 : (t.op == 1) = false := by simp [o1]
          rw [if_neg o1]
          by_cases o2 : t.op = 2
          · have d2 : (t.op == 2) = true := by simp [o2]
            rw [if_pos o2]
            have hn := hnu o2
            by_cases h3 : (bs.length : Int) ≤ t.nu
            · have d3 : decide (t.nu ≥ (bs.length : Int)) = true := dec_t h3
              simp only [go_sem, ↓reduceIte, d1, d2, d3, if_pos h3, encG, noS, hro, hro1]
            · have d3 : decide (t.nu ≥ (bs.length : Int)) = false := dec_f h3
              have d4 : IntKind.i64.wrap ((bs.length : Int) - 1) = (bs.length : Int) - 1 := wrap64 (by omega) (by omega)
              have d5 : IntKind.i64.wrap ((bs.length : Int) - 1 - t.nu) = ((bs.length - 1 - t.nu.toNat : Nat) : Int) := (wrap64 (by omega) (by omega)).trans (by omega)
              obtain ⟨x, hx⟩ : ∃ x, bs[bs.length - 1 - t.nu.toNat]? = some x := ⟨_, List.getElem?_eq_getElem (by omega)⟩
              have d6 : bs.getD (bs.length - 1 - t.nu.toNat) noS = x := by rw [List.getD_eq_getElem?_getD, hx]; rfl
              rw [if_neg h3, d6]
              simp only [go_sem, ↓reduceIte, d1, d2, d3, d4, d5, hx, encG, noS, hro, hro1]
          · have d2 : (t.op == 2) = false := by simp [o2]
            rw [if_neg o2]
            by_cases o3 : t.op = 3
            · have d3 : (t.op == 3) = true := by simp [o3]
              rw [if_pos o3]
              have hfd := fun ro m hro => rfind_ev s t.nm hs ro m hro
              generalize findF s t.nm = fq at hfd ⊢
              obtain ⟨f, ok⟩ := fq
              simp only at hfd ⊢
              cases ok with
              | false => simp only [go_sem, ↓reduceIte, d1, d2, d3, hfd, applyW, encG, noS, hro, hro1]
              | true =>
                cases hr : beqS f.res sBool with
                | true =>
                  have hk : applyW [] f (true && (true == false)) has = (noS, [], 10) := by unfold applyW; rw [if_pos (by rfl)]
                  rw [hk]
                  simp only [go_sem, ↓reduceIte, d1, d2, d3, hfd, hr, encG, noS, hro, hro1]
                | false =>
                  unfold applyW
                  by_cases h1 : f.args.length ≠ has.length
                  · have c1 : decide (f.args.length ≠ has.length) = true := dec_t h1
                    simp only [go_sem, ↓reduceIte, d1, d2, d3, hfd, hr, len_ne, c1, if_pos h1, encG, noS, hro, hro1]
                  · have c1 : decide (f.args.length ≠ has.length) = false := dec_f h1
                    have hw : f.args.length = has.length := by simpa using h1
                    have ha := fun ro m hro => asked_ev has f.args (by omega) (by omega) ro m hro
                    have hz := askW_zero [] 0 0 has f.args
                    unfold askedR at ha
                    generalize askW [] 0 0 has f.args = r at ha hz ⊢
                    obtain ⟨ra, re⟩ := r
                    simp only at hz
                    by_cases h2 : re = 0
                    · have c2 : (re == 0) = true := by simp [h2]
                      have hra := hz h2
                      subst hra h2
                      simp only [go_sem, ↓reduceIte, d1, d2, d3, hfd, hr, len_ne, c1, if_neg h1, ha, c2, encG, noS, hro, hro1]
                      simp
                    · have c2 : (re == 0) = false := by simp [h2]
                      simp only [go_sem, ↓reduceIte, d1, d2, d3, hfd, hr, len_ne, c1, if_neg h1, ha, c2, encG, noS, hro, hro1]
                      simp [h2]
            · have d3 : (t.op == 3) = false := by simp [o3]
              rw [if_neg o3]
              have hl2 : has.length ≤ 2 := by have := h2r o3; omega
              have ha := fun ro m hro => asked_ev has (List.replicate has.length sInt) (by simp) (by omega) ro m hro
              have hz := askW_zero [] 0 0 has (List.replicate has.length sInt)
              have htk : List.take has.length [C.v (.string sInt), C.v (.string sInt)] = List.map cS (List.replicate has.length sInt) := by
                have : has.length = 0 ∨ has.length = 1 ∨ has.length = 2 := by omega
                rcases this with e | e | e <;> rw [e] <;> rfl
              unfold askedR at ha
              generalize askW [] 0 0 has (List.replicate has.length sInt) = r at ha hz ⊢
              obtain ⟨ra, re⟩ := r
              simp only at hz
              have hcap : (has.length : Int) ≤ 2 := by omega
              have htn : has.length - 0 = has.length := by omega
              by_cases h2 : re = 0
              · have c2 : (re == 0) = true := by simp [h2]
                have hra := hz h2
                subst hra h2
                simp only [go_sem, ↓reduceIte, d1, d2, d3, htk, hcap, ha, c2, encG, noS, hro, hro1, Int.cast_ofNat_Int]
                simp
              · have c2 : (re == 0) = false := by simp [h2]
                simp only [go_sem, ↓reduceIte, d1, d2, d3, htk, hcap, ha, c2, encG, noS, hro, hro1, Int.cast_ofNat_Int]
                simp [h2]
end Go.Eng
