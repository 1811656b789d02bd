-- own work: an evaluator of the program's code, and what it answers
import Derived.Test.YtdmoipccmbimhaaGreatDoorR5
import Derived.Test.YtdmoipccmbimhaaGreatDoorRA
set_option maxRecDepth 100000
set_option linter.unusedVariables false
set_option linter.unusedSimpArgs false
namespace Go.Eng
open Go Go.Proofs
/-- how many terms the reference asks for -/
def termsR (c : Cl) : Int := if c.op = 3 then ((min c.ts.length 8 : Nat) : Int) else if c.op = 4 ∨ c.op = 5 then 2 else 0
theorem range12 {op : Int} (h : ¬ (op < 1 ∨ 12 < op)) : op = 1 ∨ op = 2 ∨ op = 3 ∨ op = 4 ∨ op = 5 ∨ op = 6 ∨ op = 7 ∨ op = 8 ∨ op = 9 ∨ op = 10 ∨ op = 11 ∨ op = 12 := by omega
theorem termsR_iff (c : Cl) (h : ¬ (c.op < 1 ∨ 12 < c.op)) : ((0 ≤ arityT c.op ∧ (c.ts.length : Int) ≠ arityT c.op) ∨ 8 < c.ts.length ∨ (c.ss.length : Int) ≠ arityS c.op) ↔ ((c.ts.length : Int) ≠ termsR c ∨ (c.ss.length : Int) ≠ arityS c.op) := by
  have hop := range12 h
  rcases hop with e | e | e | e | e | e | e | e | e | e | e | e
  · have h1 : arityT c.op = 0 := by rw [e]; rfl
    have h2 : arityS c.op = 0 := by rw [e]; rfl
    have h3 : termsR c = 0 := by unfold termsR; rw [e]; rfl
    rw [h1, h2, h3]; omega
  · have h1 : arityT c.op = 0 := by rw [e]; rfl
    have h2 : arityS c.op = 0 := by rw [e]; rfl
    have h3 : termsR c = 0 := by unfold termsR; rw [e]; rfl
    rw [h1, h2, h3]; omega
  · have h1 : arityT c.op = -1 := by rw [e]; rfl
    have h2 : arityS c.op = 0 := by rw [e]; rfl
    have h3 : termsR c = ((min c.ts.length 8 : Nat) : Int) := by unfold termsR; rw [e]; rfl
    rw [h1, h2, h3]; omega
  · have h1 : arityT c.op = 2 := by rw [e]; rfl
    have h2 : arityS c.op = 0 := by rw [e]; rfl
    have h3 : termsR c = 2 := by unfold termsR; rw [e]; rfl
    rw [h1, h2, h3]; omega
  · have h1 : arityT c.op = 2 := by rw [e]; rfl
    have h2 : arityS c.op = 0 := by rw [e]; rfl
    have h3 : termsR c = 2 := by unfold termsR; rw [e]; rfl
    rw [h1, h2, h3]; omega
  · have h1 : arityT c.op = 0 := by rw [e]; rfl
    have h2 : arityS c.op = 1 := by rw [e]; rfl
    have h3 : termsR c = 0 := by unfold termsR; rw [e]; rfl
    rw [h1, h2, h3]; omega
  · have h1 : arityT c.op = 0 := by rw [e]; rfl
    have h2 : arityS c.op = 2 := by rw [e]; rfl
    have h3 : termsR c = 0 := by unfold termsR; rw [e]; rfl
    rw [h1, h2, h3]; omega
  · have h1 : arityT c.op = 0 := by rw [e]; rfl
    have h2 : arityS c.op = 2 := by rw [e]; rfl
    have h3 : termsR c = 0 := by unfold termsR; rw [e]; rfl
    rw [h1, h2, h3]; omega
  · have h1 : arityT c.op = 0 := by rw [e]; rfl
    have h2 : arityS c.op = 2 := by rw [e]; rfl
    have h3 : termsR c = 0 := by unfold termsR; rw [e]; rfl
    rw [h1, h2, h3]; omega
  · have h1 : arityT c.op = 0 := by rw [e]; rfl
    have h2 : arityS c.op = 2 := by rw [e]; rfl
    have h3 : termsR c = 0 := by unfold termsR; rw [e]; rfl
    rw [h1, h2, h3]; omega
  · have h1 : arityT c.op = 0 := by rw [e]; rfl
    have h2 : arityS c.op = 1 := by rw [e]; rfl
    have h3 : termsR c = 0 := by unfold termsR; rw [e]; rfl
    rw [h1, h2, h3]; omega
  · have h1 : arityT c.op = 0 := by rw [e]; rfl
    have h2 : arityS c.op = 1 := by rw [e]; rfl
    have h3 : termsR c = 0 := by unfold termsR; rw [e]; rfl
    rw [h1, h2, h3]; omega
set_option maxHeartbeats 16000000 in
theorem rpartC_ev (c : Cl) (hc : okC c) (ro : Nat) (m : Mem) (hro : ro ≤ m.length) :
    evL Tryz.prog An ro 55 [.c (encC c)] m = some (.c (.v (.int .i64 (firstC c))), m) := by
  induction hd : SizeOf.sizeOf c using Nat.strongRecOn generalizing c ro m with
  | _ d ih =>
  have hts := hc.len.1
  have hss := hc.len.2
  rw [maxLen_eq] at hts hss
  have hro1 : ro ≤ m.length + 1 := by omega
  have hfc := firstC_eq c
  refine evL_by (n := 105) (by kernel_rfl) rfl fn55 rfl rfl rfl rfl ?_
  refine cut ⟨[.c (encC c), boxClaim c, .c (.v (.int .i64 0))] ++ List.replicate 102 .undef, [] :: m⟩ rfl (by simp only [go_sem, ↓reduceIte, upS_n, leL_nil, leL_cons, or_true, true_or, and_self]) ?_
  refine cut ⟨[.c (encC c), boxClaim c, .c (.v (.int .i64 0)), .c (.v (.bool (bindB c.op)))] ++ List.replicate 101 .undef, [] :: m⟩ rfl ?_ ?_
  · unfold bindB
    cases b11 : (c.op == 11) with
    | true => simp only [go_sem, ↓reduceIte, b11, upS_n, leL_nil, leL_cons, or_true, true_or, and_self]
    | false => simp only [go_sem, ↓reduceIte, b11, upS_n, leL_nil, leL_cons, or_true, true_or, and_self]
  · by_cases h1 : (c.op < 1 ∨ 12 < c.op) ∨ (bindB c.op = false ∧ (c.so.toList ≠ [] ∨ (c.op ≠ 3 ∧ c.nm.toList ≠ [])))
    · have e7 : firstC c = 7 := by
        have : cpartE c = 7 := by
          unfold cpartE
          refine if_pos ?_
          rcases h1 with h | ⟨h, h2 | ⟨h2, h3⟩⟩
          · exact .inl h
          · exact .inr (.inr ⟨h2, h⟩)
          · exact .inr (.inl ⟨h3, h2, h⟩)
        rw [hfc, this]; rfl
      rw [e7]
      clear hfc e7 ih
      cases a1 : decide (c.op < 1) with
      | true => simp only [go_sem, ↓reduceIte, a1]
      | false =>
      cases a2 : decide (c.op > 12) with
      | true => simp only [go_sem, ↓reduceIte, a1, a2]
      | false =>
      have n1 := of_decide_eq_false a1
      have n2 := of_decide_eq_false a2
      obtain ⟨bd, h2⟩ := h1.resolve_left (by omega)
      cases b2 : (c.so.toList == ByteArray.empty.toList) with
      | false => simp only [go_sem, ↓reduceIte, a1, a2, bd, b2]
      | true =>
        obtain ⟨h3, h4⟩ := h2.resolve_left (by rw [nm_empty, b2]; simp)
        have b3 : (c.op != 3) = true := bne_t h3
        have b1 := nm_empty.1 h4
        simp only [go_sem, ↓reduceIte, a1, a2, bd, b1, b2, b3]
    · simp only [not_or] at h1
      obtain ⟨⟨o1, o2⟩, o3⟩ := h1
      have a1 : decide (c.op < 1) = false := dec_f o1
      have a2 : decide (c.op > 12) = false := dec_f o2
      have hcp : cpartE c = if (c.ts.length : Int) ≠ termsR c ∨ (c.ss.length : Int) ≠ arityS c.op then 12 else 0 := by
        unfold cpartE
        rw [if_neg (by
          intro h
          rcases h with h | ⟨h, h2, h3⟩ | ⟨h, h3⟩
          · exact h.elim o1 o2
          · exact o3 ⟨h3, .inr ⟨h2, h⟩⟩
          · exact o3 ⟨h3, .inl h⟩)]
        by_cases hk : (c.ts.length : Int) ≠ termsR c ∨ (c.ss.length : Int) ≠ arityS c.op
        · rw [if_pos hk, if_pos ((termsR_iff c (fun h => h.elim o1 o2)).2 hk)]
        · rw [if_neg hk, if_neg (fun h => hk ((termsR_iff c (fun h => h.elim o1 o2)).1 h))]
      refine cut ⟨[.c (encC c), boxClaim c, .c (.v (.int .i64 0)), .c (.v (.bool (bindB c.op)))] ++ List.replicate 101 .undef, [] :: m⟩ rfl ?_ ?_
      · cases bd : bindB c.op with
        | true => simp only [go_sem, ↓reduceIte, a1, a2, upS_n, leL_nil, leL_cons, or_true, true_or, and_self]
        | false =>
          cases b2 : (c.so.toList == ByteArray.empty.toList) with
          | false => exact absurd ⟨bd, .inl (nm_empty.2 b2)⟩ o3
          | true =>
            cases b3 : (c.op != 3) with
            | false => simp only [go_sem, ↓reduceIte, a1, a2, b2, b3, upS_n, leL_nil, leL_cons, or_true, true_or, and_self]
            | true =>
              cases b1 : (c.nm.toList == ByteArray.empty.toList) with
              | false => exact absurd ⟨bd, .inr ⟨by simpa using b3, nm_empty.2 b1⟩⟩ o3
              | true => simp only [go_sem, ↓reduceIte, a1, a2, b1, b2, b3, upS_n, leL_nil, leL_cons, or_true, true_or, and_self]
      · refine cut ⟨[.c (encC c), boxClaim c, .c (.v (.int .i64 0)), .c (.v (.bool (bindB c.op))), .c (.v (.int .i64 0)), .c (.v (.int .i64 0))] ++ List.replicate 99 .undef, [] :: m⟩ rfl (by simp only [go_sem, ↓reduceIte, upS_n, leL_nil, leL_cons, or_true, true_or, and_self]) ?_
        refine cut ⟨[.c (encC c), boxClaim c, .c (.v (.int .i64 0)), .c (.v (.bool (bindB c.op))), .c (.v (.int .i64 (termsR c))), .c (.v (.int .i64 (arityS c.op)))] ++ List.replicate 99 .undef, [] :: m⟩ rfl ?_ ?_
        · have hop := range12 (fun h => h.elim o1 o2)
          have hmin : (if (8 : Int) < (c.ts.length : Int) then (8 : Int) else (c.ts.length : Int)) = ((min c.ts.length 8 : Nat) : Int) := by split <;> omega
          clear hfc hcp ih o3 a1 a2
          have ht : ∀ k : Int, c.op = k → termsR c = if k = 3 then ((min c.ts.length 8 : Nat) : Int) else if k = 4 ∨ k = 5 then 2 else 0 := fun k hk => by unfold termsR; rw [hk]
          have hs : ∀ k : Int, c.op = k → arityS c.op = arityS k := fun k hk => by rw [hk]
          rcases hop with e | e | e | e | e | e | e | e | e | e | e | e <;> rw [ht _ e, hs _ e] <;> simp only [go_sem, ↓reduceIte, e, hmin, arityS, Int.reduceBEq, Int.reduceEq, Int.reduceLE, upS_n, leL_nil, leL_cons, or_true, true_or, and_self]
        · by_cases h2 : (c.ts.length : Int) ≠ termsR c ∨ (c.ss.length : Int) ≠ arityS c.op
          · rw [if_pos h2] at hcp
            have e12 : firstC c = 12 := by rw [hfc, hcp]; rfl
            rw [e12]
            clear hfc e12 ih hcp
            generalize termsR c = aT at h2 ⊢
            generalize arityS c.op = aS at h2 ⊢
            cases n1 : ((c.ts.length : Int) != aT) with
            | true => simp only [go_sem, ↓reduceIte, n1]
            | false =>
              have n3 : ((c.ss.length : Int) != aS) = true := bne_t (h2.resolve_left (by simpa using n1))
              simp only [go_sem, ↓reduceIte, n1, n3]
          · rw [if_neg h2] at hcp
            rw [hcp, if_neg (by simp)] at hfc
            simp only [not_or, ne_eq, Decidable.not_not] at h2
            obtain ⟨g1, g2⟩ := h2
            rw [← g1, ← g2]
            have n1 : ((c.ts.length : Int) != (c.ts.length : Int)) = false := bne_f rfl
            have n3 : ((c.ss.length : Int) != (c.ss.length : Int)) = false := bne_f rfl
            refine cut ⟨[.c (encC c), boxClaim c, .c (.v (.int .i64 0)), .c (.v (.bool (bindB c.op))), .c (.v (.int .i64 c.ts.length)), .c (.v (.int .i64 c.ss.length))] ++ List.replicate 99 .undef, [] :: m⟩ rfl (by simp only [go_sem, ↓reduceIte, n1, n3, upS_n, leL_nil, leL_cons, or_true, true_or, and_self]) ?_
            by_cases h3 : rightTs c.ts ≠ 0
            · rw [if_pos h3] at hfc
              simp only [go_sem, ↓reduceIte]
              generalize hL : loopW _ _ = L
              obtain ⟨i, ⟨k1, k2⟩, hE, rfl⟩ := loopW_at hL (fun i : Nat => [(6, .c (.v (.int .i64 i)))]) (fun _ => [] :: m) (fun i => i ≤ c.ts.length ∧ rightTs c.ts = rightTs (c.ts.drop i)) (fun i => i = c.ts.length ∨ ∃ x, c.ts[i]? = some x ∧ rightT x ≠ 0) (fun i => c.ts.length - i) 0 rfl rfl ⟨by omega, by simp⟩ (by
                rintro i ⟨k1, k2⟩ hE
                simp only [not_or, not_exists, not_and] at hE
                obtain ⟨k3, k4⟩ := hE
                obtain ⟨x, hx⟩ : ∃ x, c.ts[i]? = some x := ⟨_, List.getElem?_eq_getElem (by omega)⟩
                have c1 : decide ((i : Int) < (c.ts.length : Int)) = true := dec_t (by omega)
                have c3 : IntKind.i64.wrap ((i : Int) + 1) = ((i + 1 : Nat) : Int) := wrap64 (by omega) (by omega)
                have hz : rightT x = 0 := by simpa using k4 x hx
                have hr := fun ro m hro => rRight_ev x (hc.arg.1 x (List.mem_of_getElem? hx)) ro m hro
                rw [hz] at hr
                have c2 : ((0 : Int) != 0) = false := rfl
                refine ⟨i + 1, ⟨by omega, ?_⟩, by omega, ?_⟩
                · rw [k2, rightTs_drop _ _ _ hx, if_neg (by simp [hz])]
                · rw [round_go]
                  simp only [go_sem, ↓reduceIte, c1, c2, c3, hx, hr, hro, hro1])
              clear hL
              rw [loopW_go]
              rcases hE with rfl | ⟨x, hx, hz⟩
              · exact absurd (by rw [k2]; simp [rightTs]) h3
              · have hil := (List.getElem?_eq_some_iff.1 hx).1
                have c1 : decide ((i : Int) < (c.ts.length : Int)) = true := dec_t (by omega)
                have hr := fun ro m hro => rRight_ev x (hc.arg.1 x (List.mem_of_getElem? hx)) ro m hro
                have c2 : (rightT x != 0) = true := by simpa using hz
                have hv : rightTs c.ts = rightT x := by rw [k2, rightTs_drop _ _ _ hx, if_pos hz]
                rw [hv] at hfc
                rw [hfc]
                simp only [go_sem, ↓reduceIte, c1, c2, hx, hr, hro, hro1]
            · rw [if_neg h3] at hfc
              have h3 : rightTs c.ts = 0 := by simpa using h3
              refine cut ⟨[.c (encC c), boxClaim c, .c (.v (.int .i64 0)), .c (.v (.bool (bindB c.op))), .c (.v (.int .i64 c.ts.length)), .c (.v (.int .i64 c.ss.length))] ++ List.replicate 99 .undef, [] :: m⟩ rfl ?_ ?_
              · simp only [go_sem, ↓reduceIte]
                generalize hL : loopW _ _ = L
                obtain ⟨i, ⟨k1, k2⟩, hE, rfl⟩ := loopW_at hL (fun i : Nat => [(6, .c (.v (.int .i64 i)))]) (fun _ => [] :: m) (fun i => i ≤ c.ts.length ∧ rightTs c.ts = rightTs (c.ts.drop i)) (fun i => i = c.ts.length ∨ ∃ x, c.ts[i]? = some x ∧ rightT x ≠ 0) (fun i => c.ts.length - i) 0 rfl rfl ⟨by omega, by simp⟩ (by
                  rintro i ⟨k1, k2⟩ hE
                  simp only [not_or, not_exists, not_and] at hE
                  obtain ⟨k3, k4⟩ := hE
                  obtain ⟨x, hx⟩ : ∃ x, c.ts[i]? = some x := ⟨_, List.getElem?_eq_getElem (by omega)⟩
                  have c1 : decide ((i : Int) < (c.ts.length : Int)) = true := dec_t (by omega)
                  have c3 : IntKind.i64.wrap ((i : Int) + 1) = ((i + 1 : Nat) : Int) := wrap64 (by omega) (by omega)
                  have hz : rightT x = 0 := by simpa using k4 x hx
                  have hr := fun ro m hro => rRight_ev x (hc.arg.1 x (List.mem_of_getElem? hx)) ro m hro
                  rw [hz] at hr
                  have c2 : ((0 : Int) != 0) = false := rfl
                  refine ⟨i + 1, ⟨by omega, ?_⟩, by omega, ?_⟩
                  · rw [k2, rightTs_drop _ _ _ hx, if_neg (by simp [hz])]
                  · rw [round_go]
                    simp only [go_sem, ↓reduceIte, c1, c2, c3, hx, hr, hro, hro1])
                clear hL
                rw [loopW_go]
                have hi : i = c.ts.length := by
                  rcases hE with h | ⟨x, hx, hz⟩
                  · exact h
                  · exact absurd (rightTs_zero h3 x (List.mem_of_getElem? hx)) hz
                subst hi
                have c1 : decide ((c.ts.length : Int) < (c.ts.length : Int)) = false := dec_f (by omega)
                simp only [go_sem, ↓reduceIte, c1, upS_n, leL_nil, leL_cons, or_true, true_or, and_self]
              · clear h3
                by_cases h3 : firstCs c.ss ≠ 0
                · simp only [go_sem, ↓reduceIte]
                  generalize hL : loopW _ _ = L
                  obtain ⟨i, ⟨k1, k2⟩, hE, rfl⟩ := loopW_at hL (fun i : Nat => [(8, .c (.v (.int .i64 i)))]) (fun _ => [] :: m) (fun i => i ≤ c.ss.length ∧ firstCs c.ss = firstCs (c.ss.drop i)) (fun i => i = c.ss.length ∨ ∃ x, c.ss[i]? = some x ∧ firstC x ≠ 0) (fun i => c.ss.length - i) 0 rfl rfl ⟨by omega, by simp⟩ (by
                    rintro i ⟨k1, k2⟩ hE
                    simp only [not_or, not_exists, not_and] at hE
                    obtain ⟨k3, k4⟩ := hE
                    obtain ⟨x, hx⟩ : ∃ x, c.ss[i]? = some x := ⟨_, List.getElem?_eq_getElem (by omega)⟩
                    have c1 : decide ((i : Int) < (c.ss.length : Int)) = true := dec_t (by omega)
                    have c3 : IntKind.i64.wrap ((i : Int) + 1) = ((i + 1 : Nat) : Int) := wrap64 (by omega) (by omega)
                    have hz : firstC x = 0 := by simpa using k4 x hx
                    have hr := fun (ro : Nat) (m : Mem) (hro : ro ≤ m.length) => ih _ (by have := Cl.lt (List.mem_of_getElem? hx); omega) x (hc.arg.2 x (List.mem_of_getElem? hx)) ro m hro rfl
                    rw [hz] at hr
                    have c2 : ((0 : Int) != 0) = false := rfl
                    refine ⟨i + 1, ⟨by omega, ?_⟩, by omega, ?_⟩
                    · rw [k2, firstCs_drop _ _ _ hx, if_neg (by simp [hz])]
                    · rw [round_go]
                      simp only [go_sem, ↓reduceIte, c1, c2, c3, hx, hr, hro, hro1])
                  clear hL
                  rw [loopW_go]
                  rcases hE with rfl | ⟨x, hx, hz⟩
                  · exact absurd (by rw [k2]; simp [firstCs]) h3
                  · have hil := (List.getElem?_eq_some_iff.1 hx).1
                    have c1 : decide ((i : Int) < (c.ss.length : Int)) = true := dec_t (by omega)
                    have hr := fun (ro : Nat) (m : Mem) (hro : ro ≤ m.length) => ih _ (by have := Cl.lt (List.mem_of_getElem? hx); omega) x (hc.arg.2 x (List.mem_of_getElem? hx)) ro m hro rfl
                    have c2 : (firstC x != 0) = true := by simpa using hz
                    have hv : firstCs c.ss = firstC x := by rw [k2, firstCs_drop _ _ _ hx, if_pos hz]
                    rw [hv] at hfc
                    rw [hfc]
                    simp only [go_sem, ↓reduceIte, c1, c2, hx, hr, hro, hro1]
                · have h3 : firstCs c.ss = 0 := by simpa using h3
                  rw [h3] at hfc
                  rw [hfc]
                  simp only [go_sem, ↓reduceIte]
                  generalize hL : loopW _ _ = L
                  obtain ⟨i, ⟨k1, k2⟩, hE, rfl⟩ := loopW_at hL (fun i : Nat => [(8, .c (.v (.int .i64 i)))]) (fun _ => [] :: m) (fun i => i ≤ c.ss.length ∧ firstCs c.ss = firstCs (c.ss.drop i)) (fun i => i = c.ss.length ∨ ∃ x, c.ss[i]? = some x ∧ firstC x ≠ 0) (fun i => c.ss.length - i) 0 rfl rfl ⟨by omega, by simp⟩ (by
                    rintro i ⟨k1, k2⟩ hE
                    simp only [not_or, not_exists, not_and] at hE
                    obtain ⟨k3, k4⟩ := hE
                    obtain ⟨x, hx⟩ : ∃ x, c.ss[i]? = some x := ⟨_, List.getElem?_eq_getElem (by omega)⟩
                    have c1 : decide ((i : Int) < (c.ss.length : Int)) = true := dec_t (by omega)
                    have c3 : IntKind.i64.wrap ((i : Int) + 1) = ((i + 1 : Nat) : Int) := wrap64 (by omega) (by omega)
                    have hz : firstC x = 0 := by simpa using k4 x hx
                    have hr := fun (ro : Nat) (m : Mem) (hro : ro ≤ m.length) => ih _ (by have := Cl.lt (List.mem_of_getElem? hx); omega) x (hc.arg.2 x (List.mem_of_getElem? hx)) ro m hro rfl
                    rw [hz] at hr
                    have c2 : ((0 : Int) != 0) = false := rfl
                    refine ⟨i + 1, ⟨by omega, ?_⟩, by omega, ?_⟩
                    · rw [k2, firstCs_drop _ _ _ hx, if_neg (by simp [hz])]
                    · rw [round_go]
                      simp only [go_sem, ↓reduceIte, c1, c2, c3, hx, hr, hro, hro1])
                  clear hL
                  rw [loopW_go]
                  have hi : i = c.ss.length := by
                    rcases hE with h | ⟨x, hx, hz⟩
                    · exact h
                    · exact absurd (firstCs_zero h3 x (List.mem_of_getElem? hx)) hz
                  subst hi
                  have c1 : decide ((c.ss.length : Int) < (c.ss.length : Int)) = false := dec_f (by omega)
                  simp only [go_sem, ↓reduceIte, c1]
set_option maxHeartbeats 4000000 in
theorem rRightC_ev (c : Cl) (hc : okC c) (ro : Nat) (m : Mem) (hro : ro ≤ m.length) :
    evL Tryz.prog An ro 20 [.c (encC c)] m = some (.c (.v (.int .i64 (rightC c))), m) := by
  refine evL_by (n := 10) (by kernel_rfl) rfl fn20 rfl rfl rfl rfl ?_
  have hro1 : ro ≤ m.length + 1 := by omega
  have hd := fun ro m hro => rdepthC_ev c hc 64 (by omega) ro m hro
  have hs := fun ro m hro => big_ev c hc 4096 (by omega) ro m hro
  have hp := fun ro m hro => rpartC_ev c hc ro m hro
  have e64 : ((64 : Nat) : Int) = 64 := rfl
  have e4096 : ((4096 : Nat) : Int) = 4096 := rfl
  simp only [e64] at hd
  simp only [e4096] at hs
  simp only [Nat.reduceAdd] at hd
  unfold rightC
  by_cases h1 : 64 < depC c
  · have d1 : decide (((min (depC c) 65 : Nat) : Int) > 64) = true := dec_t (by omega)
    simp only [go_sem, ↓reduceIte, hd, d1, hro, hro1, if_pos h1]
  · have d1 : decide (((min (depC c) 65 : Nat) : Int) > 64) = false := dec_f (by omega)
    rw [if_neg h1]
    by_cases h2 : 4096 < sizeC c
    · simp only [h2, decide_true] at hs
      simp only [go_sem, ↓reduceIte, hd, hs, d1, hro, hro1, if_pos h2]
    · simp only [h2, decide_false] at hs
      simp only [go_sem, ↓reduceIte, hd, hs, hp, d1, hro, hro1, if_neg h2]
end Go.Eng
