-- own work: an evaluator of the program's code, and what it answers
import Derived.Test.YtdmoipccmbimhaaGreatDoorR4
import Derived.Test.YtdmoipccmbimhaaGreatDoorR6
set_option maxRecDepth 100000
set_option linter.unusedVariables false
set_option linter.unusedSimpArgs false
namespace Go.Eng
open Go Go.Proofs
theorem claimW_one (s : Sg) (vs : List Va) (bs : List ByteArray) (i : Int) (x : Cl) : claimW s vs bs ([] ++ [i]) x = preW [i] (claimW s vs bs [] x) := claimW_pre s vs [i] _ x bs [] (Nat.le_refl _)
theorem lastW_len (s : Sg) (op : Int) (nm : ByteArray) (has : List ByteArray) : (lastW s [] op nm has).1.length ≤ 1 := by
  unfold lastW
  split
  · exact applyW_len _ _ has
  · split
    · exact askW_len 0 0 has _
    · split
      · exact askW_len 0 0 has _
      · simp
theorem preW_len (p : List Int) (x : List Int × Int) : (preW p x).1.length ≤ p.length + x.1.length := by
  unfold preW; split
  · simp
  · omega
theorem allW_len (s : Sg) (vs : List Va) (bs : List ByteArray) (d : Nat) : ∀ (l : List Tm) (i : Nat), (∀ x ∈ l, fitT d x) → (allW s vs bs [] i l).2.1.length ≤ d + 2
  | [], i, _ => by simp [allW]
  | x :: r, i, hx => by
    simp only [allW]
    split
    · have h1 := termW_len s vs bs d x (hx x (by simp))
      have h2 := preA_len [(i : Int)] (termW s vs bs [] x)
      rw [termW_one]
      simp only [List.length_singleton] at h2
      show (preA [(i : Int)] (termW s vs bs [] x)).2.1.length ≤ d + 2
      omega
    · split
      · exact allW_len s vs bs d r (i + 1) (fun y hy => hx y (by simp [hy]))
      · simp
theorem claimW_len (s : Sg) (vs : List Va) : ∀ (d : Nat) (c : Cl) (bs : List ByteArray), fitC d c → (claimW s vs bs [] c).1.length ≤ d + 70
  | 0, c, bs, h => by cases h
  | d + 1, c, bs, h => by
    have key : ∀ (l : List Cl) (bs : List ByteArray) (n i : Nat), (∀ x ∈ l, fitC d x) → (claimsW s vs bs [] n i l).1.length ≤ d + 71 := by
      intro l
      induction l with
      | nil => intro bs n i _; rw [claimsW_nil]; simp
      | cons x r ih =>
        intro bs n i hx
        rw [claimsW_cons]
        split
        · have h1 := claimW_len s vs d x bs (hx x (by simp))
          have h2 := preW_len [(n : Int) + i] (claimW s vs bs [] x)
          rw [claimW_one]
          simp only [List.length_singleton] at h2
          omega
        · exact ih bs n (i + 1) (fun y hy => hx y (by simp [hy]))
    obtain ⟨_, _, _, _, htf⟩ := h.ts
    rw [claimW_eq]
    have h1 := allW_len s vs bs 64 c.ts 0 htf
    have h2 := key c.ss (bindsW s bs c) c.ts.length 0 (fun x hx => h.sub hx)
    have h3 := lastW_len s c.op c.nm (allW s vs bs [] 0 c.ts).1
    split
    · show (allW s vs bs [] 0 c.ts).2.1.length ≤ _
      omega
    · split
      · simp
      · split
        · omega
        · omega
set_option maxHeartbeats 32000000 in
theorem claimR_ev (s : Sg) (vs : List Va) (hs : s.funs.length ≤ maxLen) (hso : s.sorts.length ≤ 2000000) (hv : vs.length ≤ maxLen) : ∀ (d : Nat) (c : Cl) (bs : List ByteArray), fitC d c → d ≤ 1000 → bs.length + d ≤ 50000 → ∀ (ro : Nat) (m : Mem), ro ≤ m.length →
    evL Tryz.prog An ro 81 [.c (encS s), .c (.sl (vs.map encV)), .c (.sl (bs.map cS)), .c (encC c)] m = some (.c (encG (noS, (claimW s vs bs [] c).1, (claimW s vs bs [] c).2)), m)
  | 0, c, bs, hf, _, _, _, _, _ => by cases hf
  | d + 1, c, bs, hf, hd, hbs, ro, m, hro => by
    obtain ⟨h8, h2, hop4, hop5, htf⟩ := hf.ts
    have hro1 : ro ≤ m.length + 1 := by omega
    have hsub := fun (x : Tm) (hx : x ∈ c.ts) (ro : Nat) (m : Mem) (hro : ro ≤ m.length) => within_ev s vs bs hs hv (by omega) 64 x (htf x hx) (by omega) ro m hro
    have hlen := fun (x : Tm) (hx : x ∈ c.ts) => termW_len s vs bs 64 x (htf x hx)
    have hok := fun (h : (allW s vs bs [] 0 c.ts).2.2 = 0) => allW_ok h
    rw [claimW_eq, ← restW_0]
    refine evL_by (n := 149) (by kernel_rfl) rfl fn81 rfl rfl rfl rfl ?_
    refine cut ⟨[.c (encS s), .c (.sl (vs.map encV)), .c (.sl (bs.map cS)), .c (encC c), .c (.fp [.sl (s.sorts.map cS), .sl (s.funs.map encF)]), .undef, .undef, boxClaim c, .p m.length 8 0] ++ List.replicate 140 .undef, [(8, boxG0)] :: m⟩ rfl (by simp only [go_sem, ↓reduceIte, upS_n, leL_nil, leL_cons, or_true, true_or, and_self]) ?_
    refine cut ⟨[.c (encS s), .c (.sl (vs.map encV)), .c (.sl (bs.map cS)), .c (encC c), .c (.fp [.sl (s.sorts.map cS), .sl (s.funs.map encF)]), .undef, .undef, boxClaim c, .p m.length 8 0, .tip none []] ++ List.replicate 139 .undef, [(8, boxG0)] :: m⟩ rfl (by simp only [go_sem, ↓reduceIte, upS_n, leL_nil, leL_cons, or_true, true_or, and_self]) ?_
    by_cases he : (allW s vs bs [] 0 c.ts).2.2 ≠ 0
    · rw [restW_0, if_pos he, ← restW_0]
      simp only [go_sem, ↓reduceIte]
      generalize hL : loopW _ _ = L
      obtain ⟨⟨i, out⟩, ⟨k1, k2, k3⟩, hE, rfl⟩ := loopW_at hL (fun (q : Nat × List ByteArray) => [(9, .tip (if q.1 = 0 then none else some 1) (q.2.map cS)), (10, .c (.v (.int .i64 q.1)))]) (fun _ => [(8, boxG0)] :: m)
        (fun q => q.1 ≤ c.ts.length ∧ q.2.length = q.1 ∧ restW s vs bs [] 0 [] c.ts = restW s vs bs [] q.1 q.2 (c.ts.drop q.1))
        (fun q => q.1 = c.ts.length ∨ ∃ x, c.ts[q.1]? = some x ∧ (termW s vs bs [] x).2.2 ≠ 0) (fun q => c.ts.length - q.1) (0, []) rfl rfl ⟨by simp, rfl, by simp⟩ (by
        rintro ⟨i, out⟩ ⟨k1, k2, k3⟩ hE
        simp only [not_or, not_exists, not_and] at hE k1 k2 k3
        obtain ⟨k4, k5⟩ := hE
        obtain ⟨x, hx⟩ : ∃ x, c.ts[i]? = some x := ⟨_, List.getElem?_eq_getElem (by omega)⟩
        have c1 : decide ((i : Int) < (c.ts.length : Int)) = true := dec_t (by omega)
        have c3 : IntKind.i64.wrap ((i : Int) + 1) = ((i + 1 : Nat) : Int) := wrap64 (by omega) (by omega)
        have hc := fun ro m hro => hsub x (List.mem_of_getElem? hx) ro m hro
        have k6 := k5 x hx
        have hgood : ¬ (termW s vs bs ([] ++ [(i : Int)]) x).2.2 ≠ 0 := by rw [termW_one]; unfold preA; rw [if_neg k6]; exact k6
        have hrest := restW_good (out := out) (r := c.ts.drop (i + 1)) hgood
        have hsame : (termW s vs bs ([] ++ [(i : Int)]) x).1 = (termW s vs bs [] x).1 := by rw [termW_one]; unfold preA; rw [if_neg k6]
        rw [hsame] at hrest
        generalize termW s vs bs [] x = q at hc k6 hrest
        obtain ⟨so, at_, e⟩ := q
        simp only at k6 hrest
        have c2 : (e != 0) = false := by simpa using k6
        have c4 : (i + 1 = 0) = False := by simp
        have c5 : (out.length + 1) * 16 ≤ 140737488355328 := by omega
        have c6 : out.length + 1 ≤ 9223372036854775807 := by omega
        refine ⟨(i + 1, out ++ [so]), ⟨by simp only; omega, by simp [k2], ?_⟩, by simp only; omega, ?_⟩
        · rw [k3, drop_get hx, hrest]
        · have hos : (if i = 0 then none else some 1 : Option Nat) = none ∨ (if i = 0 then none else some 1 : Option Nat) = some 1 := by split <;> simp
          rw [round_go]
          simp only
          generalize (if i = 0 then none else some 1 : Option Nat) = os at hos ⊢
          simp only [go_sem, ↓reduceIte, c1, c2, c3, c4, c5, c6, hos, hx, hc, encG, S_snoc, hro1, hro])
      clear hL
      simp only at k1 k2 k3 hE
      rw [loopW_go]
      rcases hE with rfl | ⟨x, hx, hbad⟩
      · exact absurd (by rw [← restW_0, k3, List.drop_length, restW_nil]) he
      · have hil := (List.getElem?_eq_some_iff.1 hx).1
        have c1 : decide ((i : Int) < (c.ts.length : Int)) = true := dec_t (by omega)
        have hc := fun ro m hro => hsub x (List.mem_of_getElem? hx) ro m hro
        have hln := hlen x (List.mem_of_getElem? hx)
        have hbad' : (termW s vs bs ([] ++ [(i : Int)]) x).2.2 ≠ 0 := by rw [termW_one]; unfold preA; rw [if_pos hbad]; exact hbad
        rw [k3, drop_get hx, restW_bad hbad', termW_one]
        generalize termW s vs bs [] x = q at hc hbad hln ⊢
        obtain ⟨so, at_, e⟩ := q
        simp only at hbad hln
        have c2 : (e != 0) = true := by simpa using hbad
        have hah := fun ro m => ahead_ev (i : Int) at_ (by omega) ro m
        have hp : preA [(i : Int)] (so, at_, e) = (so, (i : Int) :: at_, e) := by unfold preA; rw [if_pos hbad]; rfl
        rw [hp]
        simp only [go_sem, ↓reduceIte, c1, c2, hx, hc, hah, encG, noS, hro, hro1]
    · have he0 : (allW s vs bs [] 0 c.ts).2.2 = 0 := by simpa using he
      obtain ⟨hl, hat⟩ := hok he0
      rw [restW_0, if_neg he]
      obtain ⟨os, hos⟩ : ∃ os, os = if c.ts.length = 0 then none else some 1 := ⟨_, rfl⟩
      refine cut ⟨[.c (encS s), .c (.sl (vs.map encV)), .c (.sl (bs.map cS)), .c (encC c), .c (.fp [.sl (s.sorts.map cS), .sl (s.funs.map encF)]), .undef, .undef, boxClaim c, .p m.length 8 0, .tip os ((allW s vs bs [] 0 c.ts).1.map cS)] ++ List.replicate 139 .undef, [(8, boxG0)] :: m⟩ rfl ?_ ?_
      · simp only [go_sem, ↓reduceIte]
        generalize hL : loopW _ _ = L
        obtain ⟨⟨i, out⟩, ⟨k1, k2, k3⟩, hE, rfl⟩ := loopW_at hL (fun (q : Nat × List ByteArray) => [(9, .tip (if q.1 = 0 then none else some 1) (q.2.map cS)), (10, .c (.v (.int .i64 q.1)))]) (fun _ => [(8, boxG0)] :: m)
          (fun q => q.1 ≤ c.ts.length ∧ q.2.length = q.1 ∧ restW s vs bs [] 0 [] c.ts = restW s vs bs [] q.1 q.2 (c.ts.drop q.1))
          (fun q => q.1 = c.ts.length ∨ ∃ x, c.ts[q.1]? = some x ∧ (termW s vs bs [] x).2.2 ≠ 0) (fun q => c.ts.length - q.1) (0, []) rfl rfl ⟨by simp, rfl, by simp⟩ (by
          rintro ⟨i, out⟩ ⟨k1, k2, k3⟩ hE
          simp only [not_or, not_exists, not_and] at hE k1 k2 k3
          obtain ⟨k4, k5⟩ := hE
          obtain ⟨x, hx⟩ : ∃ x, c.ts[i]? = some x := ⟨_, List.getElem?_eq_getElem (by omega)⟩
          have c1 : decide ((i : Int) < (c.ts.length : Int)) = true := dec_t (by omega)
          have c3 : IntKind.i64.wrap ((i : Int) + 1) = ((i + 1 : Nat) : Int) := wrap64 (by omega) (by omega)
          have hc := fun ro m hro => hsub x (List.mem_of_getElem? hx) ro m hro
          have k6 := k5 x hx
          have hgood : ¬ (termW s vs bs ([] ++ [(i : Int)]) x).2.2 ≠ 0 := by rw [termW_one]; unfold preA; rw [if_neg k6]; exact k6
          have hrest := restW_good (out := out) (r := c.ts.drop (i + 1)) hgood
          have hsame : (termW s vs bs ([] ++ [(i : Int)]) x).1 = (termW s vs bs [] x).1 := by rw [termW_one]; unfold preA; rw [if_neg k6]
          rw [hsame] at hrest
          generalize termW s vs bs [] x = q at hc k6 hrest
          obtain ⟨so, at_, e⟩ := q
          simp only at k6 hrest
          have c2 : (e != 0) = false := by simpa using k6
          have c4 : (i + 1 = 0) = False := by simp
          have c5 : (out.length + 1) * 16 ≤ 140737488355328 := by omega
          have c6 : out.length + 1 ≤ 9223372036854775807 := by omega
          refine ⟨(i + 1, out ++ [so]), ⟨by simp only; omega, by simp [k2], ?_⟩, by simp only; omega, ?_⟩
          · rw [k3, drop_get hx, hrest]
          · have hos : (if i = 0 then none else some 1 : Option Nat) = none ∨ (if i = 0 then none else some 1 : Option Nat) = some 1 := by split <;> simp
            rw [round_go]
            simp only
            generalize (if i = 0 then none else some 1 : Option Nat) = os at hos ⊢
            simp only [go_sem, ↓reduceIte, c1, c2, c3, c4, c5, c6, hos, hx, hc, encG, S_snoc, hro1, hro])
        clear hL
        simp only at k1 k2 k3 hE
        rw [loopW_go]
        have hi : i = c.ts.length := by
          rcases hE with h | ⟨x, hx, hbad⟩
          · exact h
          · have hbad' : (termW s vs bs ([] ++ [(i : Int)]) x).2.2 ≠ 0 := by rw [termW_one]; unfold preA; rw [if_pos hbad]; exact hbad
            rw [← restW_0, k3, drop_get hx, restW_bad hbad'] at he0
            exact absurd he0 hbad'
        subst hi
        have c1 : decide ((c.ts.length : Int) < (c.ts.length : Int)) = false := dec_f (by omega)
        have ho : out = (allW s vs bs [] 0 c.ts).1 := by
          rw [← restW_0, k3, List.drop_length, restW_nil]
        subst hos
        rw [← ho]
        simp only [go_sem, ↓reduceIte, c1, upS_n, leL_nil, leL_cons, or_true, true_or, and_self]
      · generalize allW s vs bs [] 0 c.ts = q at hl hat ⊢
        obtain ⟨has, at_, e⟩ := q
        simp only at hl hat
        clear hos he he0 hok hsub hlen
        have hkn := fun ro m => known_ev s c.so (by rw [maxLen_eq]; omega) ro m
        have hth := thing_known s c.so
        cases hbt : (bindB c.op && !thingS s c.so) with
        | true =>
          simp only [Bool.and_eq_true, Bool.not_eq_true'] at hbt
          obtain ⟨hb1, hb2⟩ := hbt
          rw [hb2] at hth
          simp only [if_true]
          unfold bindB at hb1
          generalize hk0 : knownR s c.so = kn at hkn hth
          cases kn with
          | false =>
            cases b11 : (c.op == 11) with
            | true => simp only [go_sem, ↓reduceIte, b11, hkn, encG, noS, hro, hro1]
            | false =>
              have b12 : (c.op == 12) = true := by rw [b11] at hb1; simpa using hb1
              simp only [go_sem, ↓reduceIte, b11, b12, hkn, encG, noS, hro, hro1]
          | true =>
            have hbo : beqS c.so sBool = true := by simpa using hth.symm
            cases b11 : (c.op == 11) with
            | true => simp only [go_sem, ↓reduceIte, b11, hkn, hbo, encG, noS, hro, hro1]
            | false =>
              have b12 : (c.op == 12) = true := by rw [b11] at hb1; simpa using hb1
              simp only [go_sem, ↓reduceIte, b11, b12, hkn, hbo, encG, noS, hro, hro1]
        | false =>
          simp only [Bool.false_eq_true, if_false]
          obtain ⟨X, hX2⟩ : ∃ X : V, X = if bindB c.op then .tip (some 1) ((bs ++ [c.so]).map cS) else .c (.sl (bs.map cS)) := ⟨_, rfl⟩
          have hX := (rd_tmp (A := An) (tm := [X]) (t := 0)).symm.trans (show rdOf An [X] (.tmp 0) = some (.c (.sl ((bindsW s bs c).map cS))) by rw [hX2]; unfold bindsW; cases bindB c.op <;> rfl)
          simp only [List.getD_cons_zero] at hX
          have hXk : ∀ (r : List V) (y : V) (s : List V), keep (X :: r) (y :: s) = y :: keep r s := fun r y s => by rw [hX2]; cases bindB c.op <;> rfl
          have hXa : ∀ d ks, X.among d ks = true := fun d ks => by rw [hX2]; cases bindB c.op <;> rfl
          have hbs' : (bindsW s bs c).length + d ≤ 50000 := by unfold bindsW; split; (simp; omega); omega
          refine cut ⟨[.c (encS s), .c (.sl (vs.map encV)), X, .c (encC c), .c (.fp [.sl (s.sorts.map cS), .sl (s.funs.map encF)]), .undef, .undef, boxClaim c, .p m.length 8 0, .tip os (has.map cS)] ++ List.replicate 139 .undef, [(8, boxG0)] :: m⟩ rfl ?_ ?_
          · subst hX2
            cases b11 : (c.op == 11) with
            | true =>
              have hb : bindB c.op = true := by unfold bindB; rw [b11]; rfl
              rw [hb] at hbt
              have ht : thingS s c.so = true := by simpa using hbt
              rw [ht] at hth
              have hk : knownR s c.so = true := by cases hk : knownR s c.so with | true => rfl | false => rw [hk] at hth; cases hth
              have hbo : beqS c.so sBool = false := by rw [hk] at hth; simpa using hth.symm
              rw [hk] at hkn
              have q0 : (0 + bs.length) * 16 ≤ 140737488355328 := by omega
              have q0' : 0 + bs.length ≤ 9223372036854775807 := by omega
              have q0b : bs.length * 16 ≤ 140737488355328 := by omega
              have q0c : bs.length ≤ 9223372036854775807 := by omega
              have q1 : (bs.length + 1) * 16 ≤ 140737488355328 := by omega
              have q2 : bs.length + 1 ≤ 9223372036854775807 := by omega
              simp only [go_sem, ↓reduceIte, b11, hb, hkn, hbo, q0b, q0c, q1, q2, S_snoc, hro, hro1, upS_n, leL_nil, leL_cons, or_true, true_or, and_self]
            | false =>
            cases b12 : (c.op == 12) with
            | true =>
              have hb : bindB c.op = true := by unfold bindB; rw [b11, b12]; rfl
              rw [hb] at hbt
              have ht : thingS s c.so = true := by simpa using hbt
              rw [ht] at hth
              have hk : knownR s c.so = true := by cases hk : knownR s c.so with | true => rfl | false => rw [hk] at hth; cases hth
              have hbo : beqS c.so sBool = false := by rw [hk] at hth; simpa using hth.symm
              rw [hk] at hkn
              have q0b : bs.length * 16 ≤ 140737488355328 := by omega
              have q0c : bs.length ≤ 9223372036854775807 := by omega
              have q1 : (bs.length + 1) * 16 ≤ 140737488355328 := by omega
              have q2 : bs.length + 1 ≤ 9223372036854775807 := by omega
              simp only [go_sem, ↓reduceIte, b11, b12, hb, hkn, hbo, q0b, q0c, q1, q2, S_snoc, hro, hro1, upS_n, leL_nil, leL_cons, or_true, true_or, and_self]
            | false =>
              have hb : bindB c.op = false := by unfold bindB; rw [b11, b12]; rfl
              simp only [go_sem, ↓reduceIte, b11, b12, hb, upS_n, leL_nil, leL_cons, or_true, true_or, and_self]
          · clear hX2 hkn hth hbt
            generalize bindsW s bs c = bs' at hX hbs'
            have hcl := fun (x : Cl) (hx : x ∈ c.ss) (ro : Nat) (m : Mem) (hro : ro ≤ m.length) => claimR_ev s vs hs hso hv d x bs' (hf.sub hx) (by omega) hbs' ro m hro
            have hcln := fun (x : Cl) (hx : x ∈ c.ss) => claimW_len s vs d x bs' (hf.sub hx)
            by_cases h3 : (claimsW s vs bs' [] c.ts.length 0 c.ss).2 ≠ 0
            · rw [if_pos h3]
              simp only [go_sem, ↓reduceIte]
              generalize hL : loopW _ _ = L
              obtain ⟨i, ⟨k1, k2⟩, hE, rfl⟩ := loopW_at hL (fun i : Nat => [(12, .c (.v (.int .i64 i)))]) (fun _ => [(8, boxG0)] :: m) (fun i => i ≤ c.ss.length ∧ claimsW s vs bs' [] c.ts.length 0 c.ss = claimsW s vs bs' [] c.ts.length i (c.ss.drop i)) (fun i => i = c.ss.length ∨ ∃ x, c.ss[i]? = some x ∧ (claimW s vs bs' [] x).2 ≠ 0) (fun i => c.ss.length - i) 0 rfl rfl ⟨by omega, by simp⟩ (by
                rintro i ⟨k1, k2⟩ hE
                simp only [not_or, not_exists, not_and] at hE
                obtain ⟨k3, k4⟩ := hE
                obtain ⟨x, hx⟩ : ∃ x, c.ss[i]? = some x := ⟨_, List.getElem?_eq_getElem (by omega)⟩
                have c1 : decide ((i : Int) < (c.ss.length : Int)) = true := dec_t (by omega)
                have c3 : IntKind.i64.wrap ((i : Int) + 1) = ((i + 1 : Nat) : Int) := wrap64 (by omega) (by omega)
                have hz := k4 x hx
                have hdr := claimsW_drop s vs bs' [] c.ts.length c.ss i x hx
                have hz2 : ¬ (claimW s vs bs' ([] ++ [(c.ts.length : Int) + i]) x).2 ≠ 0 := by rw [claimW_one]; unfold preW; rw [if_neg hz]; exact hz
                rw [if_neg hz2] at hdr
                have hr := fun (ro : Nat) (m : Mem) (hro : ro ≤ m.length) => hcl x (List.mem_of_getElem? hx) ro m hro
                generalize claimW s vs bs' [] x = q at hz hr
                obtain ⟨at2, e2⟩ := q
                simp only at hz
                have c2 : (e2 != 0) = false := by simpa using hz
                refine ⟨i + 1, ⟨by omega, ?_⟩, by omega, ?_⟩
                · rw [k2, hdr]
                · rw [round_go]
                  simp only [go_sem, ↓reduceIte, c1, c2, c3, hx, hX, hXk, hXa, hr, encG, hro, hro1])
              clear hL
              rw [loopW_go]
              rcases hE with rfl | ⟨x, hx, hz⟩
              · exact absurd (by rw [k2, claimsW_drop0]) h3
              · have hil := (List.getElem?_eq_some_iff.1 hx).1
                have c1 : decide ((i : Int) < (c.ss.length : Int)) = true := dec_t (by omega)
                have c4 : IntKind.i64.wrap ((has.length : Int) + (i : Int)) = (c.ts.length : Int) + i := (wrap64 (by omega) (by omega)).trans (by omega)
                have hz2 : (claimW s vs bs' ([] ++ [(c.ts.length : Int) + i]) x).2 ≠ 0 := by rw [claimW_one]; unfold preW; rw [if_pos hz]; exact hz
                have hln := hcln x (List.mem_of_getElem? hx)
                rw [k2, claimsW_drop s vs bs' [] c.ts.length c.ss i x hx, if_pos hz2, claimW_one]
                have hr := fun (ro : Nat) (m : Mem) (hro : ro ≤ m.length) => hcl x (List.mem_of_getElem? hx) ro m hro
                generalize claimW s vs bs' [] x = q at hz hr hln ⊢
                obtain ⟨at2, e2⟩ := q
                simp only at hz hln
                have c2 : (e2 != 0) = true := by simpa using hz
                have hah := fun ro m => ahead_ev ((c.ts.length : Int) + i) at2 (by omega) ro m
                have hp : preW [(c.ts.length : Int) + i] (at2, e2) = (((c.ts.length : Int) + i) :: at2, e2) := by unfold preW; rw [if_pos hz]; rfl
                rw [hp]
                simp only [go_sem, ↓reduceIte, c1, c2, c4, hx, hX, hr, hah, encG, noS, hro, hro1]
            · rw [if_neg h3]
              have h3 : (claimsW s vs bs' [] c.ts.length 0 c.ss).2 = 0 := by simpa using h3
              refine cut ⟨[.c (encS s), .c (.sl (vs.map encV)), X, .c (encC c), .c (.fp [.sl (s.sorts.map cS), .sl (s.funs.map encF)]), .undef, .undef, boxClaim c, .p m.length 8 0, .tip os (has.map cS)] ++ List.replicate 139 .undef, [(8, boxG0)] :: m⟩ rfl ?_ ?_
              · simp only [go_sem, ↓reduceIte]
                generalize hL : loopW _ _ = L
                obtain ⟨i, ⟨k1, k2⟩, hE, rfl⟩ := loopW_at hL (fun i : Nat => [(12, .c (.v (.int .i64 i)))]) (fun _ => [(8, boxG0)] :: m) (fun i => i ≤ c.ss.length ∧ claimsW s vs bs' [] c.ts.length 0 c.ss = claimsW s vs bs' [] c.ts.length i (c.ss.drop i)) (fun i => i = c.ss.length ∨ ∃ x, c.ss[i]? = some x ∧ (claimW s vs bs' [] x).2 ≠ 0) (fun i => c.ss.length - i) 0 rfl rfl ⟨by omega, by simp⟩ (by
                  rintro i ⟨k1, k2⟩ hE
                  simp only [not_or, not_exists, not_and] at hE
                  obtain ⟨k3, k4⟩ := hE
                  obtain ⟨x, hx⟩ : ∃ x, c.ss[i]? = some x := ⟨_, List.getElem?_eq_getElem (by omega)⟩
                  have c1 : decide ((i : Int) < (c.ss.length : Int)) = true := dec_t (by omega)
                  have c3 : IntKind.i64.wrap ((i : Int) + 1) = ((i + 1 : Nat) : Int) := wrap64 (by omega) (by omega)
                  have hz := k4 x hx
                  have hdr := claimsW_drop s vs bs' [] c.ts.length c.ss i x hx
                  have hz2 : ¬ (claimW s vs bs' ([] ++ [(c.ts.length : Int) + i]) x).2 ≠ 0 := by rw [claimW_one]; unfold preW; rw [if_neg hz]; exact hz
                  rw [if_neg hz2] at hdr
                  have hr := fun (ro : Nat) (m : Mem) (hro : ro ≤ m.length) => hcl x (List.mem_of_getElem? hx) ro m hro
                  generalize claimW s vs bs' [] x = q at hz hr
                  obtain ⟨at2, e2⟩ := q
                  simp only at hz
                  have c2 : (e2 != 0) = false := by simpa using hz
                  refine ⟨i + 1, ⟨by omega, ?_⟩, by omega, ?_⟩
                  · rw [k2, hdr]
                  · rw [round_go]
                    simp only [go_sem, ↓reduceIte, c1, c2, c3, hx, hX, hXk, hXa, hr, encG, hro, hro1])
                clear hL
                rw [loopW_go]
                have hi : i = c.ss.length := by
                  rcases hE with h | ⟨x, hx, hz⟩
                  · exact h
                  · have hz2 : (claimW s vs bs' ([] ++ [(c.ts.length : Int) + i]) x).2 ≠ 0 := by rw [claimW_one]; unfold preW; rw [if_pos hz]; exact hz
                    rw [k2, claimsW_drop s vs bs' [] c.ts.length c.ss i x hx, if_pos hz2] at h3; exact absurd h3 hz2
                subst hi
                have c1 : decide ((c.ss.length : Int) < (c.ss.length : Int)) = false := dec_f (by omega)
                simp only [go_sem, ↓reduceIte, c1, upS_n, leL_nil, leL_cons, or_true, true_or, and_self]
              · clear h3 hcl hcln
                unfold lastW
                by_cases o3 : c.op = 3
                · have d3 : (c.op == 3) = true := by simp [o3]
                  rw [if_pos o3]
                  have hfd := fun ro m hro => rfind_ev s c.nm hs ro m hro
                  generalize findF s c.nm = fq at hfd ⊢
                  obtain ⟨f, ok⟩ := fq
                  simp only at hfd ⊢
                  cases ok with
                  | false =>
                    have hk : applyW [] f (false && (beqS f.res sBool == true)) has = (noS, [], 10) := by unfold applyW; rw [if_pos (by rfl)]
                    rw [hk]
                    simp only [go_sem, ↓reduceIte, d3, hfd, encG, noS, hro, hro1]
                  | true =>
                    cases hr : beqS f.res sBool with
                    | false =>
                      have hk : applyW [] f (true && (false == true)) has = (noS, [], 10) := by unfold applyW; rw [if_pos (by rfl)]
                      rw [hk]
                      simp only [go_sem, ↓reduceIte, d3, hfd, hr, encG, noS, hro, hro1]
                    | true =>
                      have hk : (true && (true == true)) = true := rfl
                      rw [hk]
                      unfold applyW
                      rw [if_neg (by simp)]
                      by_cases h1 : f.args.length ≠ has.length
                      · have c1 : decide (f.args.length ≠ has.length) = true := dec_t h1
                        rw [if_pos h1]
                        simp only [go_sem, ↓reduceIte, d3, hfd, hr, len_ne, c1, encG, noS, hro, hro1]
                      · have c1 : decide (f.args.length ≠ has.length) = false := dec_f h1
                        have hw : f.args.length = has.length := by simpa using h1
                        have ha := fun ro m hro => asked_ev has f.args (by omega) (by omega) ro m hro
                        have hz := askW_zero [] 0 0 has f.args
                        unfold askedR at ha
                        rw [if_neg h1]
                        generalize askW [] 0 0 has f.args = r at ha hz ⊢
                        obtain ⟨ra, re⟩ := r
                        simp only at hz
                        have hv2 : (if (ra, re).2 ≠ 0 then (noS, (ra, re).1, (ra, re).2) else (f.res, [], 0)).2 = (ra, re) := by
                          by_cases h2 : re = 0
                          · simp [h2, hz h2]
                          · simp [h2]
                        rw [hv2]
                        simp only [go_sem, ↓reduceIte, d3, hfd, hr, len_ne, c1, ha, encG, noS, hro, hro1]
                · have d3 : (c.op == 3) = false := by simp [o3]
                  rw [if_neg o3]
                  by_cases o5 : c.op = 5
                  · have d5 : (c.op == 5) = true := by simp [o5]
                    rw [if_pos o5]
                    have hlen : has.length = 2 := hl.trans (hop5 o5)
                    have ha := fun ro m hro => asked_ev has [sInt, sInt] (by simp; omega) (by omega) ro m hro
                    simp only [List.map_cons, List.map_nil, cS] at ha
                    unfold askedR at ha
                    generalize askW [] 0 0 has [sInt, sInt] = r at ha ⊢
                    obtain ⟨ra, re⟩ := r
                    simp only [go_sem, ↓reduceIte, d3, d5, ha, encG, noS, hro, hro1]
                  · have d5 : (c.op == 5) = false := by simp [o5]
                    rw [if_neg o5]
                    by_cases o4 : c.op = 4
                    · have d4 : (c.op == 4) = true := by simp [o4]
                      rw [if_pos o4]
                      have hlen : has.length = 2 := hl.trans (hop4 o4)
                      obtain ⟨a, b, rfl⟩ : ∃ a b, has = [a, b] := by
                        match has, hlen with
                        | [a, b], _ => exact ⟨a, b, rfl⟩
                      have ha := fun ro m hro => asked_ev [a, b] [a, a] (by simp) (by simp) ro m hro
                      simp only [List.map_cons, List.map_nil, cS] at ha
                      have hg : List.getD [a, b] 0 noS = a := rfl
                      rw [hg]
                      unfold askedR at ha
                      generalize askW [] 0 0 [a, b] [a, a] = r at ha ⊢
                      obtain ⟨ra, re⟩ := r
                      simp only [go_sem, ↓reduceIte, d3, d5, d4, ha, cS, encG, noS, hro, hro1]
                    · have d4 : (c.op == 4) = false := by simp [o4]
                      rw [if_neg o4]
                      simp only [go_sem, ↓reduceIte, d3, d5, d4, encG, noS, hro, hro1]
set_option maxHeartbeats 4000000 in
theorem claimIn_ev (s : Sg) (vs : List Va) (c : Cl) (hs : s.funs.length ≤ maxLen) (hso : s.sorts.length ≤ 2000000) (hv : vs.length ≤ maxLen) (hc : okC c) (ro : Nat) (m : Mem) (hro : ro ≤ m.length) :
    evL Tryz.prog An ro 52 [.c (encS s), .c (.sl (vs.map encV)), .c (.sl []), .c (encC c)] m = some (.c (encG (noS, (wellC s vs c).1, (wellC s vs c).2)), m) := by
  refine evL_by (n := 21) (by kernel_rfl) rfl fn52 rfl rfl rfl rfl ?_
  have hro1 : ro ≤ m.length + 1 := by omega
  have hr := fun ro m hro => rRightC_ev c hc ro m hro
  unfold wellC
  by_cases h : rightC c = 0
  · have d1 : (rightC c != 0) = false := by simp [h]
    rw [if_neg (by simpa using h)]
    have hcl := fun ro m hro => claimR_ev s vs hs hso hv 64 c [] (fitC_right h) (by omega) (by simp) ro m hro
    simp only [List.map_nil] at hcl
    generalize claimW s vs [] [] c = q at hcl ⊢
    obtain ⟨a, b⟩ := q
    simp only [go_sem, ↓reduceIte, hr, d1, hcl, encG, hro, hro1]
  · have d1 : (rightC c != 0) = true := by simpa using h
    rw [if_pos (by simpa using h)]
    simp only [go_sem, ↓reduceIte, hr, d1, encG, noS, hro, hro1]
end Go.Eng
