-- own work: an evaluator of the program's code, and what it answers
import Derived.Test.YtdmoipccmbimhaaGreatDoorW10
set_option maxRecDepth 100000
set_option linter.unusedVariables false
set_option linter.unusedSimpArgs false
namespace Go.Eng
open Go Go.Proofs
theorem askW_two {way : List Int} {a b x y : ByteArray} : askW way 0 0 [a, b] [x, y] = if beqS a x then (if beqS b y then ([], 0) else (way ++ [1], 11)) else (way ++ [0], 11) := by
  simp [askW]
theorem claimsW_drop (s : Sg) (vs : List Va) (bs : List ByteArray) (way : List Int) (n : Nat) (l : List Cl) (i : Nat) (x : Cl) (h : l[i]? = some x) : claimsW s vs bs way n i (l.drop i) = if (claimW s vs bs (way ++ [(n : Int) + i]) x).2 ≠ 0 then claimW s vs bs (way ++ [(n : Int) + i]) x else claimsW s vs bs way n (i + 1) (l.drop (i + 1)) := by
  rw [drop_get h, claimsW_cons]
theorem claimsW_drop0 (s : Sg) (vs : List Va) (bs : List ByteArray) (way : List Int) (n : Nat) (l : List Cl) : claimsW s vs bs way n l.length (l.drop l.length) = ([], 0) := by
  rw [List.drop_length, claimsW_nil]
theorem S_snoc (bs : List ByteArray) (x : ByteArray) : List.map cS bs ++ [C.v (.string x)] = List.map cS (bs ++ [x]) := by simp [cS]
theorem defd_tup {l : List V} : (V.tup l).defd = l.all fun x => !x.isUndef := rfl
set_option maxHeartbeats 16000000 in
theorem f32_ev (s : Sg) (vs : List Va) (hs : s.funs.length ≤ maxLen) (hso : s.sorts.length ≤ 2000000) (hv : vs.length ≤ maxLen) : ∀ (d : Nat) (c : Cl) (way : List Int) (bs : List ByteArray), fitC d c → way.length + d ≤ 500 → bs.length + d ≤ 50000 → ∀ (ro : Nat) (m : Mem), ro ≤ m.length →
    evL Tryz.prog An ro 76 [.c (encR s vs bs), .c (.sl (way.map cI)), .c (encC c)] m = some (.tup (encA2 (claimW s vs bs way c)), m)
  | 0, c, way, bs, hf, _, _, _, _, _ => by cases hf
  | d + 1, c, way, bs, hf, hw, hbs, ro, m, hro => by
    obtain ⟨h8, h2, hop4, hop5, htf⟩ := hf.ts
    have hro1 : ro ≤ m.length + 1 := by omega
    have hall := fun ro m hro => f51_ev s vs bs way c.ts (by omega) (by omega) ro m hro (fun x hx k ro m hro => f26_ev s vs bs hs hv (by omega) 64 x (way ++ [k]) (htf x hx) (by simp; omega) ro m hro)
    have hhas := fun (h : (allW s vs bs way 0 c.ts).2.2 = 0) => (allW_ok h).1
    rw [claimW_eq]
    refine evL_by (n := 130) (by kernel_rfl) rfl fn76 rfl rfl rfl rfl ?_
    by_cases he : (allW s vs bs way 0 c.ts).2.2 ≠ 0
    · rw [if_pos he]
      generalize allW s vs bs way 0 c.ts = q at hall he
      obtain ⟨has, at_, e⟩ := q
      simp only at he
      have c2 : (e != 0) = true := by simpa using he
      simp only [go_sem, ↓reduceIte, hall, c2, encL3, encA2, hro, hro1]
    · rw [if_neg he]
      have hl := hhas (by simpa using he)
      clear hhas
      generalize allW s vs bs way 0 c.ts = q at hall he hl ⊢
      obtain ⟨has, at_, e⟩ := q
      simp only at he hl
      have c2 : (e != 0) = false := by simpa using he
      simp only
      refine cut ⟨[.c (encR s vs bs), .c (.sl (way.map cI)), .c (encC c), .p m.length 3 0, .undef, boxClaim c, .tip none [], .c (.v (.int .i64 0))] ++ List.replicate 122 .undef, [(3, boxRoom s vs bs)] :: m⟩ rfl (by simp only [go_sem, ↓reduceIte, boxRoom, upS_n, leL_nil, leL_cons, or_true, true_or, and_self]) ?_
      refine cut ⟨[.c (encR s vs bs), .c (.sl (way.map cI)), .c (encC c), .p m.length 3 0, .undef, boxClaim c, .tip none [], .c (.v (.int .i64 0)), .c (.sl (has.map cS)), .c (.sl (at_.map cI)), .c (.v (.int .i64 e))] ++ List.replicate 119 .undef, [(3, boxRoom s vs bs)] :: m⟩ rfl (by simp only [go_sem, ↓reduceIte, boxRoom, hall, encL3, hro, hro1, upS_n, leL_nil, leL_cons, or_true, true_or, and_self]) ?_
      refine cut ⟨[.c (encR s vs bs), .c (.sl (way.map cI)), .c (encC c), .p m.length 3 0, .undef, boxClaim c, .tip none [], .c (.v (.int .i64 0)), .c (.sl (has.map cS))] ++ List.replicate 121 .undef, [(3, boxRoom s vs bs)] :: m⟩ rfl (by simp only [go_sem, ↓reduceIte, boxRoom, c2, upS_n, leL_nil, leL_cons, or_true, true_or, and_self]) ?_
      clear hall he c2
      have hth := fun ro m => f38_ev s c.so hso ro m
      have h67 := fun (k : Int) (ro : Nat) (m : Mem) => f67_ev way k (by omega) ro m
      cases hbt : (bindB c.op && !thingS s c.so) with
      | true =>
        simp only [Bool.and_eq_true, Bool.not_eq_true'] at hbt
        obtain ⟨hb1, hb2⟩ := hbt
        rw [hb2] at hth
        simp only [if_true]
        unfold bindB at hb1
        cases b11 : (c.op == 11) with
        | true => simp only [go_sem, ↓reduceIte, boxRoom, b11, hth, encA2]
        | false =>
          have b12 : (c.op == 12) = true := by rw [b11] at hb1; simpa using hb1
          simp only [go_sem, ↓reduceIte, boxRoom, b11, b12, hth, encA2]
      | false =>
        simp only [Bool.false_eq_true, if_false]
        obtain ⟨X, hX2⟩ : ∃ X : V, X = if bindB c.op then .tip (some 1) ((bs ++ [c.so]).map cS) else .c (.sl (bs.map cS)) := ⟨_, rfl⟩
        have hX : X.strip = .c (.sl ((bindsW s bs c).map cS)) := by
          rw [hX2]; unfold bindsW; split <;> rfl
        have hXa : ∀ d ks, X.among d ks = true := fun d ks => by rw [hX2]; split <;> rfl
        have hbs' : (bindsW s bs c).length + d ≤ 50000 := by unfold bindsW; split; (simp; omega); omega
        refine cut ⟨[.c (encR s vs bs), .c (.sl (way.map cI)), .c (encC c), .p m.length 3 0, .undef, boxClaim c, .tip none [], .c (.v (.int .i64 0)), .c (.sl (has.map cS))] ++ List.replicate 121 .undef, [(3, [.c (.sl (s.sorts.map cS)), .c (.sl (s.funs.map encF)), .c (.fn (.func 118) [.fp [.sl (vs.map encV)]]), X])] :: m⟩ rfl ?_ ?_
        · subst hX2
          cases b11 : (c.op == 11) with
          | true =>
            have hb : bindB c.op = true := by unfold bindB; rw [b11]; rfl
            rw [hb] at hbt
            have ht : thingS s c.so = true := by simpa using hbt
            rw [ht] at hth
            have q1 : (bs.length + 1) * 16 ≤ 140737488355328 := by omega
            have q2 : bs.length + 1 ≤ 9223372036854775807 := by omega
            simp only [go_sem, ↓reduceIte, boxRoom, b11, hb, hth, q1, q2, S_snoc, hro, upS_n, leL_nil, leL_cons, or_true, true_or, and_self]
          | false =>
          cases b12 : (c.op == 12) with
          | true =>
            have hb : bindB c.op = true := by unfold bindB; rw [b11, b12]; rfl
            rw [hb] at hbt
            have ht : thingS s c.so = true := by simpa using hbt
            rw [ht] at hth
            have q1 : (bs.length + 1) * 16 ≤ 140737488355328 := by omega
            have q2 : bs.length + 1 ≤ 9223372036854775807 := by omega
            simp only [go_sem, ↓reduceIte, boxRoom, b11, b12, hb, hth, q1, q2, S_snoc, hro, upS_n, leL_nil, leL_cons, or_true, true_or, and_self]
          | false =>
            have hb : bindB c.op = false := by unfold bindB; rw [b11, b12]; rfl
            simp only [go_sem, ↓reduceIte, boxRoom, b11, b12, hb, upS_n, leL_nil, leL_cons, or_true, true_or, and_self]
        · clear hX2 hth hbt
          generalize bindsW s bs c = bs' at hX hbs'
          by_cases h3 : (claimsW s vs bs' way c.ts.length 0 c.ss).2 ≠ 0
          · rw [if_pos h3]
            simp only [go_sem, ↓reduceIte, hX]
            generalize hL : loopW _ _ = L
            obtain ⟨i, ⟨k1, k2⟩, hE, rfl⟩ := loopW_at hL (fun i : Nat => [(62, .c (.v (.int .i64 i)))]) (fun _ => [(3, [.c (.sl (s.sorts.map cS)), .c (.sl (s.funs.map encF)), .c (.fn (.func 118) [.fp [.sl (vs.map encV)]]), X])] :: m) (fun i => i ≤ c.ss.length ∧ claimsW s vs bs' way c.ts.length 0 c.ss = claimsW s vs bs' way c.ts.length i (c.ss.drop i)) (fun i => i = c.ss.length ∨ ∃ x, c.ss[i]? = some x ∧ (claimW s vs bs' (way ++ [(c.ts.length : Int) + i]) x).2 ≠ 0) (fun i => c.ss.length - i) 0 rfl rfl ⟨by omega, by simp⟩ (by
              rintro i ⟨k1, k2⟩ hE
              simp only [not_or, not_exists, not_and] at hE
              obtain ⟨k3, k4⟩ := hE
              obtain ⟨x, hx⟩ : ∃ x, c.ss[i]? = some x := ⟨_, List.getElem?_eq_getElem (by omega)⟩
              have c1 : decide ((i : Int) < (c.ss.length : Int)) = true := dec_t (by omega)
              have c3 : IntKind.i64.wrap ((i : Int) + 1) = ((i + 1 : Nat) : Int) := wrap64 (by omega) (by omega)
              have c4 : IntKind.i64.wrap ((c.ts.length : Int) + (i : Int)) = (c.ts.length : Int) + i := wrap64 (by omega) (by omega)
              have hz := k4 x hx
              have hdr := claimsW_drop s vs bs' way c.ts.length c.ss i x hx
              have hr := fun (ro : Nat) (m : Mem) (hro : ro ≤ m.length) => f32_ev s vs hs hso hv d x (way ++ [(c.ts.length : Int) + i]) bs' (hf.sub (List.mem_of_getElem? hx)) (by simp; omega) hbs' ro m hro
              generalize claimW s vs bs' (way ++ [(c.ts.length : Int) + i]) x = q at hz hdr hr
              obtain ⟨at2, e2⟩ := q
              simp only at hz
              have c2 : (e2 != 0) = false := by simpa using hz
              refine ⟨i + 1, ⟨by omega, ?_⟩, by omega, ?_⟩
              · rw [k2, hdr, if_neg (by simpa using hz)]
              · rw [round_go]
                simp only [go_sem, ↓reduceIte, c1, c2, c3, c4, hx, hX, hXa, hr, h67, encA2, hro, hro1])
            clear hL
            rw [loopW_go]
            rcases hE with rfl | ⟨x, hx, hz⟩
            · exact absurd (by rw [k2, claimsW_drop0]) h3
            · have hil := (List.getElem?_eq_some_iff.1 hx).1
              have c1 : decide ((i : Int) < (c.ss.length : Int)) = true := dec_t (by omega)
              have c4 : IntKind.i64.wrap ((c.ts.length : Int) + (i : Int)) = (c.ts.length : Int) + i := wrap64 (by omega) (by omega)
              rw [k2, claimsW_drop s vs bs' way c.ts.length c.ss i x hx, if_pos hz]
              have hr := fun (ro : Nat) (m : Mem) (hro : ro ≤ m.length) => f32_ev s vs hs hso hv d x (way ++ [(c.ts.length : Int) + i]) bs' (hf.sub (List.mem_of_getElem? hx)) (by simp; omega) hbs' ro m hro
              generalize claimW s vs bs' (way ++ [(c.ts.length : Int) + i]) x = q at hz hr
              obtain ⟨at2, e2⟩ := q
              simp only at hz
              have c2 : (e2 != 0) = true := by simpa using hz
              simp only [go_sem, ↓reduceIte, c1, c2, c4, hx, hX, hr, h67, encA2, hro, hro1]
          · rw [if_neg h3]
            have h3 : (claimsW s vs bs' way c.ts.length 0 c.ss).2 = 0 := by simpa using h3
            refine cut ⟨[.c (encR s vs bs), .c (.sl (way.map cI)), .c (encC c), .p m.length 3 0, .undef, boxClaim c, .tip none [], .c (.v (.int .i64 0)), .c (.sl (has.map cS))] ++ List.replicate 121 .undef, [(3, [.c (.sl (s.sorts.map cS)), .c (.sl (s.funs.map encF)), .c (.fn (.func 118) [.fp [.sl (vs.map encV)]]), X])] :: m⟩ rfl ?_ ?_
            · simp only [go_sem, ↓reduceIte, hX]
              generalize hL : loopW _ _ = L
              obtain ⟨i, ⟨k1, k2⟩, hE, rfl⟩ := loopW_at hL (fun i : Nat => [(62, .c (.v (.int .i64 i)))]) (fun _ => [(3, [.c (.sl (s.sorts.map cS)), .c (.sl (s.funs.map encF)), .c (.fn (.func 118) [.fp [.sl (vs.map encV)]]), X])] :: m) (fun i => i ≤ c.ss.length ∧ claimsW s vs bs' way c.ts.length 0 c.ss = claimsW s vs bs' way c.ts.length i (c.ss.drop i)) (fun i => i = c.ss.length ∨ ∃ x, c.ss[i]? = some x ∧ (claimW s vs bs' (way ++ [(c.ts.length : Int) + i]) x).2 ≠ 0) (fun i => c.ss.length - i) 0 rfl rfl ⟨by omega, by simp⟩ (by
                rintro i ⟨k1, k2⟩ hE
                simp only [not_or, not_exists, not_and] at hE
                obtain ⟨k3, k4⟩ := hE
                obtain ⟨x, hx⟩ : ∃ x, c.ss[i]? = some x := ⟨_, List.getElem?_eq_getElem (by omega)⟩
                have c1 : decide ((i : Int) < (c.ss.length : Int)) = true := dec_t (by omega)
                have c3 : IntKind.i64.wrap ((i : Int) + 1) = ((i + 1 : Nat) : Int) := wrap64 (by omega) (by omega)
                have c4 : IntKind.i64.wrap ((c.ts.length : Int) + (i : Int)) = (c.ts.length : Int) + i := wrap64 (by omega) (by omega)
                have hz := k4 x hx
                have hdr := claimsW_drop s vs bs' way c.ts.length c.ss i x hx
                have hr := fun (ro : Nat) (m : Mem) (hro : ro ≤ m.length) => f32_ev s vs hs hso hv d x (way ++ [(c.ts.length : Int) + i]) bs' (hf.sub (List.mem_of_getElem? hx)) (by simp; omega) hbs' ro m hro
                generalize claimW s vs bs' (way ++ [(c.ts.length : Int) + i]) x = q at hz hdr hr
                obtain ⟨at2, e2⟩ := q
                simp only at hz
                have c2 : (e2 != 0) = false := by simpa using hz
                refine ⟨i + 1, ⟨by omega, ?_⟩, by omega, ?_⟩
                · rw [k2, hdr, if_neg (by simpa using hz)]
                · rw [round_go]
                  simp only [go_sem, ↓reduceIte, c1, c2, c3, c4, hx, hX, hXa, hr, h67, encA2, hro, hro1])
              clear hL
              rw [loopW_go]
              have hi : i = c.ss.length := by
                rcases hE with h | ⟨x, hx, hz⟩
                · exact h
                · rw [k2, claimsW_drop s vs bs' way c.ts.length c.ss i x hx, if_pos hz] at h3; exact absurd h3 hz
              subst hi
              have c1 : decide ((c.ss.length : Int) < (c.ss.length : Int)) = false := dec_f (by omega)
              simp only [go_sem, ↓reduceIte, c1, upS_n, leL_nil, leL_cons, or_true, true_or, and_self]
            · clear h3
              unfold lastW
              by_cases o3 : c.op = 3
              · have d3 : (c.op == 3) = true := by simp [o3]
                rw [if_pos o3]
                have hfd := fun ro m hro => f52_ev s vs bs' c.nm true hs ro m hro
                generalize (findF s c.nm).1 = f at hfd ⊢
                generalize ((findF s c.nm).2 && (beqS f.res sBool == true)) = ok at hfd ⊢
                have ha := fun ro m => f53_ev s vs bs' way f ok has (by omega) (by omega) ro m
                generalize applyW way f ok has = r at ha ⊢
                obtain ⟨r1, r2, r3⟩ := r
                simp only [go_sem, ↓reduceIte, d3, hX, hfd, ha, encN, encA2, hro, hro1]
              · have d3 : (c.op == 3) = false := by simp [o3]
                rw [if_neg o3]
                by_cases o5 : c.op = 5
                · have d5 : (c.op == 5) = true := by simp [o5]
                  rw [if_pos o5]
                  have hlen : has.length = 2 := hl.trans (hop5 o5)
                  have ha := fun ro m => f54_ev way 0 has [sInt, sInt] (by omega) (by simp [hlen]) (by omega) (by omega) (by omega) ro m
                  simp only [List.map_cons, List.map_nil, cS] at ha
                  generalize askW way 0 0 has [sInt, sInt] = r at ha ⊢
                  obtain ⟨r1, r2⟩ := r
                  simp only [go_sem, ↓reduceIte, d3, d5, hX, ha, encA, encA2, hro, hro1]
                · have d5 : (c.op == 5) = false := by simp [o5]
                  rw [if_neg o5]
                  by_cases o4 : c.op = 4
                  · have d4 : (c.op == 4) = true := by simp [o4]
                    rw [if_pos o4]
                    have hlen : has.length = 2 := hl.trans (hop4 o4)
                    obtain ⟨a, b, rfl⟩ : ∃ a b, has = [a, b] := by
                      match has, hlen with
                      | [a, b], _ => exact ⟨a, b, rfl⟩
                    have ha := fun ro m => f54_ev way 0 [a, b] [a, a] (by omega) (by simp) (by simp) (by omega) (by omega) ro m
                    simp only [List.map_cons, List.map_nil, cS] at ha
                    have hg : List.getD [a, b] 0 noS = a := rfl
                    rw [hg]
                    generalize askW way 0 0 [a, b] [a, a] = r at ha ⊢
                    obtain ⟨r1, r2⟩ := r
                    simp only [go_sem, ↓reduceIte, d3, d5, d4, hX, ha, cS, encA, encA2, hro, hro1]
                  · have d4 : (c.op == 4) = false := by simp [o4]
                    rw [if_neg o4]
                    simp only [go_sem, ↓reduceIte, d3, d5, d4, hX, encA2]
/-! ### a claim that is right -/
theorem cpartE_zero {c : Cl} (h : cpartE c = 0) : c.ts.length ≤ 8 ∧ (c.ss.length : Int) = arityS c.op ∧ (0 ≤ arityT c.op → (c.ts.length : Int) = arityT c.op) := by
  unfold cpartE at h
  split at h
  · cases h
  · split at h
    · cases h
    · rename_i h1
      simp only [not_or, not_and] at h1
      obtain ⟨a, b, e⟩ := h1
      exact ⟨by omega, by omega, fun h => by have := a h; omega⟩
theorem arityS_le (op : Int) : arityS op ≤ 2 := by unfold arityS; split; omega; split <;> omega
theorem depCs_le {l : List Cl} {x : Cl} (hx : x ∈ l) : depC x ≤ depCs l := by
  induction l with
  | nil => cases hx
  | cons y r ih =>
    simp only [depCs]
    rcases List.mem_cons.1 hx with rfl | hx
    · omega
    · have := ih hx; omega
theorem fitC_of : ∀ (d : Nat) (c : Cl), depC c ≤ d → firstC c = 0 → fitC d c
  | 0, c, hd, _ => by cases c; simp [depC] at hd
  | d + 1, c, hd, hf => by
    rw [firstC_eq] at hf
    split at hf
    · rename_i h1; exact absurd hf h1
    · rename_i h1
      split at hf
      · rename_i h2; exact absurd hf h2
      · rename_i h2
        obtain ⟨k1, k2, k3⟩ := cpartE_zero (c := c) (by simpa using h1)
        have hs := arityS_le c.op
        rw [depC_eq] at hd
        refine .mk d c k1 (by omega) (fun e => ?_) (fun e => ?_) (fun x hx => fit_right (rightTs_zero (by simpa using h2) x hx)) (fun x hx => fitC_of d x ?_ (firstCs_zero hf x hx))
        · have : arityT c.op = 2 := by rw [e]; rfl
          have := k3 (by omega); omega
        · have : arityT c.op = 2 := by rw [e]; rfl
          have := k3 (by omega); omega
        · have := depCs_le (l := c.ss) hx; omega
theorem fitC_right {c : Cl} (h : rightC c = 0) : fitC 64 c := by
  unfold rightC at h
  split at h
  · cases h
  · split at h
    · cases h
    · exact fitC_of 64 c (by omega) h
def wellC (s : Sg) (vs : List Va) (c : Cl) : List Int × Int := if rightC c ≠ 0 then ([], rightC c) else claimW s vs [] [] c
set_option maxHeartbeats 4000000 in
theorem f19_ev (s : Sg) (vs : List Va) (c : Cl) (hs : s.funs.length ≤ maxLen) (hso : s.sorts.length ≤ 2000000) (hv : vs.length ≤ maxLen) (hc : okC c) (ro : Nat) (m : Mem) (hro : ro ≤ m.length) :
    evL Tryz.prog An ro 49 [.c (encS s), .c (.sl (vs.map encV)), .c (encC c)] m = some (.tup (encA2 (wellC s vs c)), m) := by
  refine evL_by (n := 21) (by kernel_rfl) rfl fn49 rfl rfl rfl rfl ?_
  have hro1 : ro ≤ m.length + 1 := by omega
  have hr := fun ro m hro => f31_ev c hc ro m hro
  unfold wellC
  by_cases h : rightC c = 0
  · have d1 : (rightC c != 0) = false := by simp [h]
    rw [if_neg (by simpa using h)]
    have hof := fun ro m hro => f25_ev s vs ro m hro
    have hcl := fun ro m hro => f32_ev s vs hs hso hv 64 c [] [] (fitC_right h) (by simp) (by simp) ro m hro
    simp only [List.map_nil] at hcl
    generalize claimW s vs [] [] c = q at hcl ⊢
    obtain ⟨a, b⟩ := q
    simp only [go_sem, ↓reduceIte, hr, d1, hof, hcl, encA2, hro, hro1]
  · have d1 : (rightC c != 0) = true := by simpa using h
    rw [if_pos (by simpa using h)]
    simp only [go_sem, ↓reduceIte, hr, d1, encA2, hro, hro1]
end Go.Eng
