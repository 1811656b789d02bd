-- own work: an evaluator of the program's code, and what it answers
import Derived.Test.YtapjanalameofaaDoorHB
import Derived.Test.YtapjanalameofaaDoorEngC
import Derived.Test.YtapjanalameofaaDoorWellA
/- What is wrong with a claim: the reference. -/
set_option maxRecDepth 100000
set_option linter.unusedVariables false
set_option linter.unusedSimpArgs false
namespace Go.Eng
open Go Go.Proofs
set_option maxHeartbeats 4000000 in
theorem wants_ev (op : Int) (ro : Nat) (m : Mem) : evL Tryd.prog An ro 73 [.c (.v (.int .i64 op))] m = some (.tup [.c (.v (.int .i64 (wantC op))), .c (.v (.int .i64 (arityS op)))], m) := by
  refine evL_by (n := 17) (by kernel_rfl) rfl fn73 rfl rfl rfl rfl ?_
  by_cases h : op < 4 ∨ 12 < op
  · have hb : ∀ k : Int, 4 ≤ k → k ≤ 12 → (op == k) = false := fun k h1 h2 => beq_eq_false_iff_ne.2 (by omega)
    have b4 := hb 4 (by decide) (by decide)
    have b5 := hb 5 (by decide) (by decide)
    have b6 := hb 6 (by decide) (by decide)
    have b7 := hb 7 (by decide) (by decide)
    have b8 := hb 8 (by decide) (by decide)
    have b9 := hb 9 (by decide) (by decide)
    have b10 := hb 10 (by decide) (by decide)
    have b11 := hb 11 (by decide) (by decide)
    have b12 := hb 12 (by decide) (by decide)
    have e1 : wantC op = 0 := by unfold wantC; rw [if_neg (by omega)]
    have e2 : arityS op = 0 := by unfold arityS; rw [if_neg (by omega), if_neg (by omega)]
    simp only [go_sem, ↓reduceIte, b4, b5, b6, b7, b8, b9, b10, b11, b12, e1, e2]
  · have : op = 4 ∨ op = 5 ∨ op = 6 ∨ op = 7 ∨ op = 8 ∨ op = 9 ∨ op = 10 ∨ op = 11 ∨ op = 12 := by omega
    rcases this with rfl | rfl | rfl | rfl | rfl | rfl | rfl | rfl | rfl <;> simp only [go_sem, ↓reduceIte, Int.reduceBEq] <;> rfl
set_option maxHeartbeats 16000000 in
theorem cparts_ev (c : Cl) (hc : okC c) (ro : Nat) (m : Mem) (hro : ro ≤ m.length) :
    evL Tryd.prog An ro 47 [.c (encC c)] m = some (.c (.v (.int .i64 (firstC c))), m) := by
  induction hd : SizeOf.sizeOf c using Nat.strongRecOn generalizing c ro m with
  | _ d ih =>
  have hts := hc.len.1
  have hss := hc.len.2
  rw [maxLen_eq] at hts hss
  have hro1 : ro ≤ m.length + 1 := by omega
  have hfc := firstC_eq c
  refine evL_by (n := 107) (by kernel_rfl) rfl fn47 rfl rfl rfl rfl ?_
  refine cut ⟨[.c (encC c), boxClaim c, .c (.v (.int .i64 0))] ++ List.replicate 104 .undef, [] :: m⟩ rfl (by simp only [go_sem, ↓reduceIte, upS_n, leL_nil, leL_cons, or_true, true_or, and_self]) ?_
  refine cut ⟨[.c (encC c), boxClaim c, .c (.v (.int .i64 0)), .c (.v (.bool (bindB c.op)))] ++ List.replicate 103 .undef, [] :: m⟩ rfl ?_ ?_
  · unfold bindB
    cases b11 : (c.op == 11) with
    | true => simp only [go_sem, ↓reduceIte, b11, upS_n, leL_nil, leL_cons, or_true, true_or, and_self]
    | false => simp only [go_sem, ↓reduceIte, b11, upS_n, leL_nil, leL_cons, or_true, true_or, and_self]
  · by_cases h1 : (c.op < 1 ∨ 12 < c.op) ∨ (bindB c.op = false ∧ (c.so.toList ≠ [] ∨ (c.op ≠ 3 ∧ c.nm.toList ≠ [])))
    · have e7 : firstC c = 7 := by
        have : cpartE c = 7 := by
          unfold cpartE
          refine if_pos ?_
          rcases h1 with h | ⟨h, h2 | ⟨h2, h3⟩⟩
          · exact .inl h
          · exact .inr (.inr ⟨h2, h⟩)
          · exact .inr (.inl ⟨h3, h2, h⟩)
        rw [hfc, this]; rfl
      rw [e7]
      clear hfc e7 ih
      cases a1 : decide (c.op < 1) with
      | true => simp only [go_sem, ↓reduceIte, a1]
      | false =>
      cases a2 : decide (c.op > 12) with
      | true => simp only [go_sem, ↓reduceIte, a1, a2]
      | false =>
      have n1 := of_decide_eq_false a1
      have n2 := of_decide_eq_false a2
      obtain ⟨bd, h2⟩ := h1.resolve_left (by omega)
      cases b3 : (c.op != 3) with
      | true =>
        cases b1 : (c.nm.toList == ByteArray.empty.toList) with
        | false => simp only [go_sem, ↓reduceIte, a1, a2, bd, b1, b3]
        | true =>
          have h4 : c.so.toList ≠ [] := h2.resolve_right (fun h => absurd b1 (by rw [nm_empty.1 h.2]; simp))
          have b2 := nm_empty.1 h4
          simp only [go_sem, ↓reduceIte, a1, a2, bd, b1, b2, b3]
      | false =>
        have h4 : c.so.toList ≠ [] := h2.resolve_right (fun h => h.1 (by simpa using b3))
        have b2 := nm_empty.1 h4
        simp only [go_sem, ↓reduceIte, a1, a2, bd, b2, b3]
    · simp only [not_or] at h1
      obtain ⟨⟨o1, o2⟩, o3⟩ := h1
      have a1 : decide (c.op < 1) = false := dec_f o1
      have a2 : decide (c.op > 12) = false := dec_f o2
      have hcp : cpartE c = if (c.op = 3 ∧ 8 < c.ts.length) ∨ (c.ts.length : Int) ≠ termsW c.op c.ts.length ∨ (c.ss.length : Int) ≠ arityS c.op then 12 else 0 := by
        unfold cpartE
        rw [if_neg (by
          intro h
          rcases h with h | ⟨h, h2, h3⟩ | ⟨h, h3⟩
          · exact h.elim o1 o2
          · exact o3 ⟨h3, .inr ⟨h2, h⟩⟩
          · exact o3 ⟨h3, .inl h⟩)]
        simp only [wantC_iff c (fun h => h.elim o1 o2)]
      refine cut ⟨[.c (encC c), boxClaim c, .c (.v (.int .i64 0)), .c (.v (.bool (bindB c.op)))] ++ List.replicate 103 .undef, [] :: m⟩ rfl ?_ ?_
      · cases bd : bindB c.op with
        | true => simp only [go_sem, ↓reduceIte, a1, a2, upS_n, leL_nil, leL_cons, or_true, true_or, and_self]
        | false =>
          cases b2 : (c.so.toList == ByteArray.empty.toList) with
          | false => exact absurd ⟨bd, .inl (nm_empty.2 b2)⟩ o3
          | true =>
            cases b3 : (c.op != 3) with
            | false => simp only [go_sem, ↓reduceIte, a1, a2, b2, b3, upS_n, leL_nil, leL_cons, or_true, true_or, and_self]
            | true =>
              cases b1 : (c.nm.toList == ByteArray.empty.toList) with
              | false => exact absurd ⟨bd, .inr ⟨by simpa using b3, nm_empty.2 b1⟩⟩ o3
              | true => simp only [go_sem, ↓reduceIte, a1, a2, b1, b2, b3, upS_n, leL_nil, leL_cons, or_true, true_or, and_self]
      · have hw := fun ro m => wants_ev c.op ro m
        refine cut ⟨[.c (encC c), boxClaim c, .c (.v (.int .i64 0)), .c (.v (.bool (bindB c.op))), .c (.v (.int .i64 (wantC c.op))), .c (.v (.int .i64 (arityS c.op)))] ++ List.replicate 101 .undef, [] :: m⟩ rfl (by simp only [go_sem, ↓reduceIte, hw, upS_n, leL_nil, leL_cons, or_true, true_or, and_self]) ?_
        clear hw
        by_cases h8 : c.op = 3 ∧ 8 < c.ts.length
        · rw [if_pos (.inl h8)] at hcp
          have e12 : firstC c = 12 := by rw [hfc, hcp]; rfl
          rw [e12]
          clear hfc e12 ih hcp
          have d1 : (c.op == 3) = true := by simp [h8.1]
          have d2 : decide ((c.ts.length : Int) > 8) = true := dec_t (by omega)
          simp only [go_sem, ↓reduceIte, d1, d2]
        · simp only [h8, false_or] at hcp
          refine cut ⟨[.c (encC c), boxClaim c, .c (.v (.int .i64 0)), .c (.v (.bool (bindB c.op))), .c (.v (.int .i64 (termsW c.op c.ts.length))), .c (.v (.int .i64 (arityS c.op)))] ++ List.replicate 101 .undef, [] :: m⟩ rfl ?_ ?_
          · clear hfc hcp ih
            by_cases h3 : c.op = 3
            · have d1 : (c.op == 3) = true := by simp [h3]
              have d2 : decide ((c.ts.length : Int) > 8) = false := dec_f (by have := fun h => h8 ⟨h3, h⟩; omega)
              have d3 : termsW c.op c.ts.length = (c.ts.length : Int) := by unfold termsW; rw [if_pos h3]
              simp only [go_sem, ↓reduceIte, d1, d2, d3, upS_n, leL_nil, leL_cons, or_true, true_or, and_self]
            · have d1 : (c.op == 3) = false := by simp [h3]
              have d3 : termsW c.op c.ts.length = wantC c.op := by unfold termsW; rw [if_neg h3]
              simp only [go_sem, ↓reduceIte, d1, d3, upS_n, leL_nil, leL_cons, or_true, true_or, and_self]
          · by_cases h2 : (c.ts.length : Int) ≠ termsW c.op c.ts.length ∨ (c.ss.length : Int) ≠ arityS c.op
            · rw [if_pos h2] at hcp
              have e12 : firstC c = 12 := by rw [hfc, hcp]; rfl
              rw [e12]
              clear hfc e12 ih hcp
              generalize termsW c.op c.ts.length = aT at h2 ⊢
              generalize arityS c.op = aS at h2 ⊢
              cases n1 : ((c.ts.length : Int) != aT) with
              | true => simp only [go_sem, ↓reduceIte, n1]
              | false =>
                have n3 : ((c.ss.length : Int) != aS) = true := bne_t (h2.resolve_left (by simpa using n1))
                simp only [go_sem, ↓reduceIte, n1, n3]
            · rw [if_neg h2] at hcp
              rw [hcp, if_neg (by simp)] at hfc
              simp only [not_or, ne_eq, Decidable.not_not] at h2
              obtain ⟨g1, g2⟩ := h2
              rw [← g1, ← g2]
              have n1 : ((c.ts.length : Int) != (c.ts.length : Int)) = false := bne_f rfl
              have n3 : ((c.ss.length : Int) != (c.ss.length : Int)) = false := bne_f rfl
              refine cut ⟨[.c (encC c), boxClaim c, .c (.v (.int .i64 0)), .c (.v (.bool (bindB c.op))), .c (.v (.int .i64 c.ts.length)), .c (.v (.int .i64 c.ss.length))] ++ List.replicate 101 .undef, [] :: m⟩ rfl (by simp only [go_sem, ↓reduceIte, n1, n3, upS_n, leL_nil, leL_cons, or_true, true_or, and_self]) ?_
              by_cases h3 : rightTs c.ts ≠ 0
              · rw [if_pos h3] at hfc
                simp only [go_sem, ↓reduceIte]
                generalize hL : loopW _ _ = L
                obtain ⟨i, ⟨k1, k2⟩, hE, rfl⟩ := loopW_at hL (fun i : Nat => [(6, .c (.v (.int .i64 i)))]) (fun _ => [] :: m) (fun i => i ≤ c.ts.length ∧ rightTs c.ts = rightTs (c.ts.drop i)) (fun i => i = c.ts.length ∨ ∃ x, c.ts[i]? = some x ∧ rightT x ≠ 0) (fun i => c.ts.length - i) 0 rfl rfl ⟨by omega, by simp⟩ (by
                  rintro i ⟨k1, k2⟩ hE
                  simp only [not_or, not_exists, not_and] at hE
                  obtain ⟨k3, k4⟩ := hE
                  obtain ⟨x, hx⟩ : ∃ x, c.ts[i]? = some x := ⟨_, List.getElem?_eq_getElem (by omega)⟩
                  have c1 : decide ((i : Int) < (c.ts.length : Int)) = true := dec_t (by omega)
                  have c3 : IntKind.i64.wrap ((i : Int) + 1) = ((i + 1 : Nat) : Int) := wrap64 (by omega) (by omega)
                  have hz : rightT x = 0 := by simpa using k4 x hx
                  have hr := fun ro m => tRight_ev x (hc.arg.1 x (List.mem_of_getElem? hx)) ro m
                  rw [hz] at hr
                  have c2 : ((0 : Int) != 0) = false := rfl
                  refine ⟨i + 1, ⟨by omega, ?_⟩, by omega, ?_⟩
                  · rw [k2, rightTs_drop _ _ _ hx, if_neg (by simp [hz])]
                  · rw [round_go]
                    simp only [go_sem, ↓reduceIte, c1, c2, c3, hx, hr, hro, hro1])
                clear hL
                rw [loopW_go]
                rcases hE with rfl | ⟨x, hx, hz⟩
                · exact absurd (by rw [k2]; simp [rightTs]) h3
                · have hil := (List.getElem?_eq_some_iff.1 hx).1
                  have c1 : decide ((i : Int) < (c.ts.length : Int)) = true := dec_t (by omega)
                  have hr := fun ro m => tRight_ev x (hc.arg.1 x (List.mem_of_getElem? hx)) ro m
                  have c2 : (rightT x != 0) = true := by simpa using hz
                  have hv : rightTs c.ts = rightT x := by rw [k2, rightTs_drop _ _ _ hx, if_pos hz]
                  rw [hv] at hfc
                  rw [hfc]
                  simp only [go_sem, ↓reduceIte, c1, c2, hx, hr, hro, hro1]
              · rw [if_neg h3] at hfc
                have h3 : rightTs c.ts = 0 := by simpa using h3
                refine cut ⟨[.c (encC c), boxClaim c, .c (.v (.int .i64 0)), .c (.v (.bool (bindB c.op))), .c (.v (.int .i64 c.ts.length)), .c (.v (.int .i64 c.ss.length))] ++ List.replicate 101 .undef, [] :: m⟩ rfl ?_ ?_
                · simp only [go_sem, ↓reduceIte]
                  generalize hL : loopW _ _ = L
                  obtain ⟨i, ⟨k1, k2⟩, hE, rfl⟩ := loopW_at hL (fun i : Nat => [(6, .c (.v (.int .i64 i)))]) (fun _ => [] :: m) (fun i => i ≤ c.ts.length ∧ rightTs c.ts = rightTs (c.ts.drop i)) (fun i => i = c.ts.length ∨ ∃ x, c.ts[i]? = some x ∧ rightT x ≠ 0) (fun i => c.ts.length - i) 0 rfl rfl ⟨by omega, by simp⟩ (by
                    rintro i ⟨k1, k2⟩ hE
                    simp only [not_or, not_exists, not_and] at hE
                    obtain ⟨k3, k4⟩ := hE
                    obtain ⟨x, hx⟩ : ∃ x, c.ts[i]? = some x := ⟨_, List.getElem?_eq_getElem (by omega)⟩
                    have c1 : decide ((i : Int) < (c.ts.length : Int)) = true := dec_t (by omega)
                    have c3 : IntKind.i64.wrap ((i : Int) + 1) = ((i + 1 : Nat) : Int) := wrap64 (by omega) (by omega)
                    have hz : rightT x = 0 := by simpa using k4 x hx
                    have hr := fun ro m => tRight_ev x (hc.arg.1 x (List.mem_of_getElem? hx)) ro m
                    rw [hz] at hr
                    have c2 : ((0 : Int) != 0) = false := rfl
                    refine ⟨i + 1, ⟨by omega, ?_⟩, by omega, ?_⟩
                    · rw [k2, rightTs_drop _ _ _ hx, if_neg (by simp [hz])]
                    · rw [round_go]
                      simp only [go_sem, ↓reduceIte, c1, c2, c3, hx, hr, hro, hro1])
                  clear hL
                  rw [loopW_go]
                  have hi : i = c.ts.length := by
                    rcases hE with h | ⟨x, hx, hz⟩
                    · exact h
                    · exact absurd (rightTs_zero h3 x (List.mem_of_getElem? hx)) hz
                  subst hi
                  have c1 : decide ((c.ts.length : Int) < (c.ts.length : Int)) = false := dec_f (by omega)
                  simp only [go_sem, ↓reduceIte, c1, upS_n, leL_nil, leL_cons, or_true, true_or, and_self]
                · clear h3
                  by_cases h3 : firstCs c.ss ≠ 0
                  · simp only [go_sem, ↓reduceIte]
                    generalize hL : loopW _ _ = L
                    obtain ⟨i, ⟨k1, k2⟩, hE, rfl⟩ := loopW_at hL (fun i : Nat => [(8, .c (.v (.int .i64 i)))]) (fun _ => [] :: m) (fun i => i ≤ c.ss.length ∧ firstCs c.ss = firstCs (c.ss.drop i)) (fun i => i = c.ss.length ∨ ∃ x, c.ss[i]? = some x ∧ firstC x ≠ 0) (fun i => c.ss.length - i) 0 rfl rfl ⟨by omega, by simp⟩ (by
                      rintro i ⟨k1, k2⟩ hE
                      simp only [not_or, not_exists, not_and] at hE
                      obtain ⟨k3, k4⟩ := hE
                      obtain ⟨x, hx⟩ : ∃ x, c.ss[i]? = some x := ⟨_, List.getElem?_eq_getElem (by omega)⟩
                      have c1 : decide ((i : Int) < (c.ss.length : Int)) = true := dec_t (by omega)
                      have c3 : IntKind.i64.wrap ((i : Int) + 1) = ((i + 1 : Nat) : Int) := wrap64 (by omega) (by omega)
                      have hz : firstC x = 0 := by simpa using k4 x hx
                      have hr := fun (ro : Nat) (m : Mem) (hro : ro ≤ m.length) => ih _ (by have := Cl.lt (List.mem_of_getElem? hx); omega) x (hc.arg.2 x (List.mem_of_getElem? hx)) ro m hro rfl
                      rw [hz] at hr
                      have c2 : ((0 : Int) != 0) = false := rfl
                      refine ⟨i + 1, ⟨by omega, ?_⟩, by omega, ?_⟩
                      · rw [k2, firstCs_drop _ _ _ hx, if_neg (by simp [hz])]
                      · rw [round_go]
                        simp only [go_sem, ↓reduceIte, c1, c2, c3, hx, hr, hro, hro1])
                    clear hL
                    rw [loopW_go]
                    rcases hE with rfl | ⟨x, hx, hz⟩
                    · exact absurd (by rw [k2]; simp [firstCs]) h3
                    · have hil := (List.getElem?_eq_some_iff.1 hx).1
                      have c1 : decide ((i : Int) < (c.ss.length : Int)) = true := dec_t (by omega)
                      have hr := fun (ro : Nat) (m : Mem) (hro : ro ≤ m.length) => ih _ (by have := Cl.lt (List.mem_of_getElem? hx); omega) x (hc.arg.2 x (List.mem_of_getElem? hx)) ro m hro rfl
                      have c2 : (firstC x != 0) = true := by simpa using hz
                      have hv : firstCs c.ss = firstC x := by rw [k2, firstCs_drop _ _ _ hx, if_pos hz]
                      rw [hv] at hfc
                      rw [hfc]
                      simp only [go_sem, ↓reduceIte, c1, c2, hx, hr, hro, hro1]
                  · have h3 : firstCs c.ss = 0 := by simpa using h3
                    rw [h3] at hfc
                    rw [hfc]
                    simp only [go_sem, ↓reduceIte]
                    generalize hL : loopW _ _ = L
                    obtain ⟨i, ⟨k1, k2⟩, hE, rfl⟩ := loopW_at hL (fun i : Nat => [(8, .c (.v (.int .i64 i)))]) (fun _ => [] :: m) (fun i => i ≤ c.ss.length ∧ firstCs c.ss = firstCs (c.ss.drop i)) (fun i => i = c.ss.length ∨ ∃ x, c.ss[i]? = some x ∧ firstC x ≠ 0) (fun i => c.ss.length - i) 0 rfl rfl ⟨by omega, by simp⟩ (by
                      rintro i ⟨k1, k2⟩ hE
                      simp only [not_or, not_exists, not_and] at hE
                      obtain ⟨k3, k4⟩ := hE
                      obtain ⟨x, hx⟩ : ∃ x, c.ss[i]? = some x := ⟨_, List.getElem?_eq_getElem (by omega)⟩
                      have c1 : decide ((i : Int) < (c.ss.length : Int)) = true := dec_t (by omega)
                      have c3 : IntKind.i64.wrap ((i : Int) + 1) = ((i + 1 : Nat) : Int) := wrap64 (by omega) (by omega)
                      have hz : firstC x = 0 := by simpa using k4 x hx
                      have hr := fun (ro : Nat) (m : Mem) (hro : ro ≤ m.length) => ih _ (by have := Cl.lt (List.mem_of_getElem? hx); omega) x (hc.arg.2 x (List.mem_of_getElem? hx)) ro m hro rfl
                      rw [hz] at hr
                      have c2 : ((0 : Int) != 0) = false := rfl
                      refine ⟨i + 1, ⟨by omega, ?_⟩, by omega, ?_⟩
                      · rw [k2, firstCs_drop _ _ _ hx, if_neg (by simp [hz])]
                      · rw [round_go]
                        simp only [go_sem, ↓reduceIte, c1, c2, c3, hx, hr, hro, hro1])
                    clear hL
                    rw [loopW_go]
                    have hi : i = c.ss.length := by
                      rcases hE with h | ⟨x, hx, hz⟩
                      · exact h
                      · exact absurd (firstCs_zero h3 x (List.mem_of_getElem? hx)) hz
                    subst hi
                    have c1 : decide ((c.ss.length : Int) < (c.ss.length : Int)) = false := dec_f (by omega)
                    simp only [go_sem, ↓reduceIte, c1]
end Go.Eng
/- What is wrong with a claim, by the reference; claims that the laws look at. -/
set_option maxRecDepth 100000
set_option linter.unusedVariables false
set_option linter.unusedSimpArgs false
namespace Go.Eng
open Go Go.Proofs
set_option maxHeartbeats 4000000 in
theorem deep_ev (c : Cl) (hc : okC c) (k : Nat) (hk : 1 ≤ k) (hk2 : k ≤ 1000) (ro : Nat) (m : Mem) :
    evL Tryd.prog An ro 71 [.c (encC c), .c (.v (.int .i64 k))] m = some (.c (.v (.int .i64 (min (depC c) k : Nat))), m) := by
  induction hd : SizeOf.sizeOf c using Nat.strongRecOn generalizing c k ro m with
  | _ d ih =>
  have hlen := hc.len.2
  have hz := depC_eq c
  rw [maxLen_eq] at hlen
  refine evL_by (n := 31) (by kernel_rfl) rfl fn71 rfl rfl rfl rfl ?_
  by_cases h1 : k = 1
  · subst h1
    have d1 : decide (((1 : Nat) : Int) ≤ 1) = true := dec_t (by omega)
    have : min (depC c) 1 = 1 := by omega
    simp only [go_sem, ↓reduceIte, d1, this]
    rfl
  · have d1 : decide ((k : Int) ≤ 1) = false := dec_f (by omega)
    simp only [go_sem, ↓reduceIte, d1]
    generalize hL : loopW _ _ = L
    obtain ⟨i, k1, hE, rfl⟩ := loopW_at hL (fun i : Nat => [(5, .c (.v (.int .i64 (min (depCs (c.ss.take i)) (k - 1) : Nat)))), (6, .c (.v (.int .i64 i)))]) (fun _ => [] :: m) (fun i => i ≤ c.ss.length) (fun i => i = c.ss.length) (fun i => c.ss.length - i) 0
      (by simp [sets, depCs]) rfl (by omega) (by
      rintro i k1 hE
      obtain ⟨x, hx⟩ : ∃ x, c.ss[i]? = some x := ⟨_, List.getElem?_eq_getElem (by omega)⟩
      have c1 : decide ((i : Int) < (c.ss.length : Int)) = true := dec_t (by omega)
      have c3 : IntKind.i64.wrap ((i : Int) + 1) = ((i + 1 : Nat) : Int) := wrap64 (by omega) (by omega)
      have c4 : IntKind.i64.wrap ((k : Int) - 1) = ((k - 1 : Nat) : Int) := (wrap64 (by omega) (by omega)).trans (by omega)
      have hmem := List.mem_of_getElem? hx
      have hsub := fun ro m => ih _ (by have := Cl.lt hmem; omega) x (hc.arg.2 x hmem) (k - 1) (by omega) (by omega) ro m rfl
      have htk := depCs_take _ _ _ hx
      refine ⟨i + 1, by omega, by omega, ?_⟩
      rw [round_go]
      by_cases h2 : ((min (depC x) (k - 1) : Nat) : Int) > ((min (depCs (c.ss.take i)) (k - 1) : Nat) : Int)
      · have c6 : decide (((min (depC x) (k - 1) : Nat) : Int) > ((min (depCs (c.ss.take i)) (k - 1) : Nat) : Int)) = true := dec_t h2
        have c7 : min (depCs (c.ss.take (i + 1))) (k - 1) = min (depC x) (k - 1) := by omega
        simp only [go_sem, ↓reduceIte, c1, c3, c4, c6, c7, hx, hsub]
      · have c6 : decide (((min (depC x) (k - 1) : Nat) : Int) > ((min (depCs (c.ss.take i)) (k - 1) : Nat) : Int)) = false := dec_f h2
        have c7 : min (depCs (c.ss.take (i + 1))) (k - 1) = min (depCs (c.ss.take i)) (k - 1) := by omega
        simp only [go_sem, ↓reduceIte, c1, c3, c4, c6, c7, hx, hsub])
    clear hL
    subst hE
    rw [loopW_go]
    have c1 : decide ((c.ss.length : Int) < (c.ss.length : Int)) = false := dec_f (by omega)
    rw [List.take_length]
    have c5 : IntKind.i64.wrap (((min (depCs c.ss) (k - 1) : Nat) : Int) + 1) = ((min (depC c) k : Nat) : Int) := (wrap64 (by omega) (by omega)).trans (by omega)
    simp only [go_sem, ↓reduceIte, c1, c5]
set_option maxHeartbeats 8000000 in
theorem weigh_ev (c : Cl) (hc : okC c) (k : Nat) (hk : k ≤ 10000) (ro : Nat) (m : Mem) (hro : ro ≤ m.length) :
    evL Tryd.prog An ro 72 [.c (encC c), .c (.v (.int .i64 k))] m = some (.c (.v (.int .i64 (min (sizeC c) (k + 1) : Nat))), m) := by
  induction hd : SizeOf.sizeOf c using Nat.strongRecOn generalizing c k ro m with
  | _ d ih =>
  have hts := hc.len.1
  have hss := hc.len.2
  rw [maxLen_eq] at hts hss
  have hz := sizeC_eqn c
  have hro1 : ro ≤ m.length + 1 := by omega
  refine evL_by (n := 55) (by kernel_rfl) rfl fn72 rfl rfl rfl rfl ?_
  simp only [go_sem, ↓reduceIte]
  generalize hL : loopW _ _ = L
  obtain ⟨i, k1, hE, rfl⟩ := loopW_at hL (fun i : Nat => [(5, .c (.v (.int .i64 (min (1 + sizeTs (c.ts.take i)) (k + 1) : Nat)))), (6, .c (.v (.int .i64 i)))]) (fun _ => [] :: m) (fun i => i ≤ c.ts.length) (fun i => i = c.ts.length ∨ k < 1 + sizeTs (c.ts.take i)) (fun i => c.ts.length - i) 0
    (by simp [sets, sizeTs]) rfl (by omega) (by
    rintro i k1 hE
    simp only [not_or, Nat.not_lt] at hE
    obtain ⟨k2, k3⟩ := hE
    obtain ⟨x, hx⟩ : ∃ x, c.ts[i]? = some x := ⟨_, List.getElem?_eq_getElem (by omega)⟩
    have c1 : decide ((i : Int) < (c.ts.length : Int)) = true := dec_t (by omega)
    have c2 : decide (((min (1 + sizeTs (c.ts.take i)) (k + 1) : Nat) : Int) ≤ (k : Int)) = true := dec_t (by omega)
    have c3 : IntKind.i64.wrap ((i : Int) + 1) = ((i + 1 : Nat) : Int) := wrap64 (by omega) (by omega)
    have c4 : IntKind.i64.wrap ((k : Int) - ((min (1 + sizeTs (c.ts.take i)) (k + 1) : Nat) : Int)) = ((k - (1 + sizeTs (c.ts.take i)) : Nat) : Int) := (wrap64 (by omega) (by omega)).trans (by omega)
    have hsub := fun ro m => rsize_ev x (hc.arg.1 x (List.mem_of_getElem? hx)) (k - (1 + sizeTs (c.ts.take i))) (by omega) ro m
    have hs := sizeTs_take _ _ _ hx
    have c5 : IntKind.i64.wrap (((min (1 + sizeTs (c.ts.take i)) (k + 1) : Nat) : Int) + ((min (sizeT x) (k - (1 + sizeTs (c.ts.take i)) + 1) : Nat) : Int)) = ((min (1 + sizeTs (c.ts.take (i + 1))) (k + 1) : Nat) : Int) := (wrap64 (by omega) (by omega)).trans (by omega)
    refine ⟨i + 1, by omega, by omega, ?_⟩
    rw [round_go]
    simp only [go_sem, ↓reduceIte, c1, c2, c3, c4, c5, hx, hsub, hro, hro1])
  clear hL
  rw [loopW_go]
  obtain ⟨q, hq⟩ : ∃ q, q = 1 + sizeTs (c.ts.take i) := ⟨_, rfl⟩
  have hqs : min q (k + 1) = min (1 + sizeTs c.ts) (k + 1) := by
    rcases hE with rfl | hE
    · rw [hq, List.take_length]
    · have := sizeTs_le c.ts i; omega
  have c12 : (decide ((i : Int) < (c.ts.length : Int)) = false) ∨ (decide ((i : Int) < (c.ts.length : Int)) = true ∧ decide (((min q (k + 1) : Nat) : Int) ≤ (k : Int)) = false) := by
    by_cases hi : i = c.ts.length
    · exact .inl (dec_f (by omega))
    · exact .inr ⟨dec_t (by omega), dec_f (by have := hE.resolve_left hi; omega)⟩
  rw [← hq]
  have hq1 : 1 ≤ q := by omega
  have hqz : min (q + sizeCs c.ss) (k + 1) = min (sizeC c) (k + 1) := by omega
  clear hE hq hqs
  rcases c12 with c1 | ⟨c1, c2⟩
  · simp only [go_sem, ↓reduceIte, c1]
    generalize hL : loopW _ _ = L
    obtain ⟨j, k2, hE, rfl⟩ := loopW_at hL (fun j : Nat => [(5, .c (.v (.int .i64 (min (q + sizeCs (c.ss.take j)) (k + 1) : Nat)))), (7, .c (.v (.int .i64 j)))]) (fun _ => [] :: m) (fun j => j ≤ c.ss.length) (fun j => j = c.ss.length ∨ k < q + sizeCs (c.ss.take j)) (fun j => c.ss.length - j) 0
      (by simp [sets, sizeCs]) rfl (by omega) (by
      rintro j k2 hE
      simp only [not_or, Nat.not_lt] at hE
      obtain ⟨k3, k4⟩ := hE
      obtain ⟨x, hx⟩ : ∃ x, c.ss[j]? = some x := ⟨_, List.getElem?_eq_getElem (by omega)⟩
      have c1 : decide ((j : Int) < (c.ss.length : Int)) = true := dec_t (by omega)
      have c2 : decide (((min (q + sizeCs (c.ss.take j)) (k + 1) : Nat) : Int) ≤ (k : Int)) = true := dec_t (by omega)
      have c3 : IntKind.i64.wrap ((j : Int) + 1) = ((j + 1 : Nat) : Int) := wrap64 (by omega) (by omega)
      have c4 : IntKind.i64.wrap ((k : Int) - ((min (q + sizeCs (c.ss.take j)) (k + 1) : Nat) : Int)) = ((k - (q + sizeCs (c.ss.take j)) : Nat) : Int) := (wrap64 (by omega) (by omega)).trans (by omega)
      have hmem := List.mem_of_getElem? hx
      have hsub := fun ro m hro => ih _ (by have := Cl.lt hmem; omega) x (hc.arg.2 x hmem) (k - (q + sizeCs (c.ss.take j))) (by omega) ro m hro rfl
      have hs := sizeCs_take _ _ _ hx
      have c5 : IntKind.i64.wrap (((min (q + sizeCs (c.ss.take j)) (k + 1) : Nat) : Int) + ((min (sizeC x) (k - (q + sizeCs (c.ss.take j)) + 1) : Nat) : Int)) = ((min (q + sizeCs (c.ss.take (j + 1))) (k + 1) : Nat) : Int) := (wrap64 (by omega) (by omega)).trans (by omega)
      refine ⟨j + 1, by omega, by omega, ?_⟩
      rw [round_go]
      simp only [go_sem, ↓reduceIte, c1, c2, c3, c4, c5, hx, hsub, hro, hro1])
    clear hL
    rw [loopW_go]
    by_cases hi : j = c.ss.length
    · subst hi
      have d1 : decide ((c.ss.length : Int) < (c.ss.length : Int)) = false := dec_f (by omega)
      rw [List.take_length, hqz]
      simp only [go_sem, ↓reduceIte, d1]
    · have hb := hE.resolve_left hi
      have d1 : decide ((j : Int) < (c.ss.length : Int)) = true := dec_t (by omega)
      have hle := sizeCs_le c.ss j
      have e : min (q + sizeCs (c.ss.take j)) (k + 1) = min (sizeC c) (k + 1) := by omega
      have d2 : decide (((min (sizeC c) (k + 1) : Nat) : Int) ≤ (k : Int)) = false := dec_f (by omega)
      rw [e]
      simp only [go_sem, ↓reduceIte, d1, d2]
  · simp only [go_sem, ↓reduceIte, c1, c2]
    generalize hL : loopW _ _ = L
    obtain ⟨j, k2, hE, rfl⟩ := loopW_at hL (fun j : Nat => [(5, .c (.v (.int .i64 (min (q + sizeCs (c.ss.take j)) (k + 1) : Nat)))), (7, .c (.v (.int .i64 j)))]) (fun _ => [] :: m) (fun j => j ≤ c.ss.length) (fun j => j = c.ss.length ∨ k < q + sizeCs (c.ss.take j)) (fun j => c.ss.length - j) 0
      (by simp [sets, sizeCs]) rfl (by omega) (by
      rintro j k2 hE
      simp only [not_or, Nat.not_lt] at hE
      obtain ⟨k3, k4⟩ := hE
      obtain ⟨x, hx⟩ : ∃ x, c.ss[j]? = some x := ⟨_, List.getElem?_eq_getElem (by omega)⟩
      have c1 : decide ((j : Int) < (c.ss.length : Int)) = true := dec_t (by omega)
      have c2 : decide (((min (q + sizeCs (c.ss.take j)) (k + 1) : Nat) : Int) ≤ (k : Int)) = true := dec_t (by omega)
      have c3 : IntKind.i64.wrap ((j : Int) + 1) = ((j + 1 : Nat) : Int) := wrap64 (by omega) (by omega)
      have c4 : IntKind.i64.wrap ((k : Int) - ((min (q + sizeCs (c.ss.take j)) (k + 1) : Nat) : Int)) = ((k - (q + sizeCs (c.ss.take j)) : Nat) : Int) := (wrap64 (by omega) (by omega)).trans (by omega)
      have hmem := List.mem_of_getElem? hx
      have hsub := fun ro m hro => ih _ (by have := Cl.lt hmem; omega) x (hc.arg.2 x hmem) (k - (q + sizeCs (c.ss.take j))) (by omega) ro m hro rfl
      have hs := sizeCs_take _ _ _ hx
      have c5 : IntKind.i64.wrap (((min (q + sizeCs (c.ss.take j)) (k + 1) : Nat) : Int) + ((min (sizeC x) (k - (q + sizeCs (c.ss.take j)) + 1) : Nat) : Int)) = ((min (q + sizeCs (c.ss.take (j + 1))) (k + 1) : Nat) : Int) := (wrap64 (by omega) (by omega)).trans (by omega)
      refine ⟨j + 1, by omega, by omega, ?_⟩
      rw [round_go]
      simp only [go_sem, ↓reduceIte, c1, c2, c3, c4, c5, hx, hsub, hro, hro1])
    clear hL
    rw [loopW_go]
    by_cases hi : j = c.ss.length
    · subst hi
      have d1 : decide ((c.ss.length : Int) < (c.ss.length : Int)) = false := dec_f (by omega)
      rw [List.take_length, hqz]
      simp only [go_sem, ↓reduceIte, d1]
    · have hb := hE.resolve_left hi
      have d1 : decide ((j : Int) < (c.ss.length : Int)) = true := dec_t (by omega)
      have hle := sizeCs_le c.ss j
      have e : min (q + sizeCs (c.ss.take j)) (k + 1) = min (sizeC c) (k + 1) := by omega
      have d2 : decide (((min (sizeC c) (k + 1) : Nat) : Int) ≤ (k : Int)) = false := dec_f (by omega)
      rw [e]
      simp only [go_sem, ↓reduceIte, d1, d2]
set_option maxHeartbeats 2000000 in
theorem cDepth_ev (c : Cl) (hc : okC c) (ro : Nat) (m : Mem) : evL Tryd.prog An ro 45 [.c (encC c)] m = some (.c (.v (.int .i64 (min (depC c) 65 : Nat))), m) := by
  refine evL_by (n := 5) (by kernel_rfl) rfl fn45 rfl rfl rfl rfl ?_
  have h := fun ro m => deep_ev c hc 65 (by omega) (by omega) ro m
  have e : ((65 : Nat) : Int) = 65 := rfl
  simp only [e] at h
  simp only [go_sem, ↓reduceIte, h]
set_option maxHeartbeats 2000000 in
theorem cSize_ev (c : Cl) (hc : okC c) (ro : Nat) (m : Mem) (hro : ro ≤ m.length) : evL Tryd.prog An ro 46 [.c (encC c)] m = some (.c (.v (.int .i64 (min (sizeC c) 4097 : Nat))), m) := by
  refine evL_by (n := 9) (by kernel_rfl) rfl fn46 rfl rfl rfl rfl ?_
  have hro1 : ro ≤ m.length + 1 := by omega
  have h := fun ro m hro => weigh_ev c hc 4096 (by omega) ro m hro
  have e : ((4096 : Nat) : Int) = 4096 := rfl
  simp only [e] at h
  simp only [Nat.reduceAdd] at h
  have d1 : decide (((min (sizeC c) 4097 : Nat) : Int) > 4097) = false := dec_f (by omega)
  simp only [go_sem, ↓reduceIte, h, d1, hro, hro1]
set_option maxHeartbeats 4000000 in
theorem cRight_ev (c : Cl) (hc : okC c) (ro : Nat) (m : Mem) (hro : ro ≤ m.length) :
    evL Tryd.prog An ro 22 [.c (encC c)] m = some (.c (.v (.int .i64 (rightC c))), m) := by
  refine evL_by (n := 11) (by kernel_rfl) rfl fn22 rfl rfl rfl rfl ?_
  have hro1 : ro ≤ m.length + 1 := by omega
  have hd := fun ro m => cDepth_ev c hc ro m
  have hs := fun ro m hro => cSize_ev c hc ro m hro
  have hp := fun ro m hro => cparts_ev c hc ro m hro
  unfold rightC
  by_cases h1 : 64 < depC c
  · have d1 : decide (((min (depC c) 65 : Nat) : Int) > 64) = true := dec_t (by omega)
    simp only [go_sem, ↓reduceIte, hd, d1, hro, hro1, if_pos h1]
  · have d1 : decide (((min (depC c) 65 : Nat) : Int) > 64) = false := dec_f (by omega)
    by_cases h2 : 4096 < sizeC c
    · have d2 : decide (((min (sizeC c) 4097 : Nat) : Int) > 4096) = true := dec_t (by omega)
      simp only [go_sem, ↓reduceIte, hd, hs, d1, d2, hro, hro1, if_neg h1, if_pos h2]
    · have d2 : decide (((min (sizeC c) 4097 : Nat) : Int) > 4096) = false := dec_f (by omega)
      simp only [go_sem, ↓reduceIte, hd, hs, hp, d1, d2, hro, hro1, if_neg h1, if_neg h2]
theorem size100 (s : ByteArray) : decide ((s.size : Int) ≤ 100) = decide (s.size ≤ 100) := by
  by_cases h : s.size ≤ 100
  · rw [dec_t h, dec_t (by omega)]
  · rw [dec_f h, dec_f (by omega)]
set_option maxHeartbeats 4000000 in
theorem named_ev (c : Cl) (hc : okC c) (ro : Nat) (m : Mem) (hro : ro ≤ m.length) : evL Tryd.prog An ro 35 [.c (encC c)] m = some (.c (.v (.bool (namedB c))), m) := by
  induction hd : SizeOf.sizeOf c using Nat.strongRecOn generalizing c ro m with
  | _ d ih =>
  have hts := hc.len.1
  have hss := hc.len.2
  rw [maxLen_eq] at hts hss
  have hro1 : ro ≤ m.length + 1 := by omega
  have hcs := fun (x : Cl) (hx : x ∈ c.ss) (ro : Nat) (m : Mem) (hro : ro ≤ m.length) => ih _ (by have := Cl.lt hx; omega) x (hc.arg.2 x hx) ro m hro rfl
  refine evL_by (n := 39) (by kernel_rfl) rfl fn35 rfl rfl rfl rfl ?_
  rw [namedB_eq]
  simp only [go_sem, ↓reduceIte]
  generalize hL : loopW _ _ = L
  obtain ⟨i, ⟨k1, k2⟩, hE, rfl⟩ := loopW_at hL (fun i : Nat => [(10, .c (.v (.int .i64 i)))]) (fun _ => [] :: m) (fun i => i ≤ c.ts.length ∧ (c.ts.take i).all shortT = true) (fun i => i = c.ts.length ∨ ∃ x, c.ts[i]? = some x ∧ shortT x = false) (fun i => c.ts.length - i) 0 rfl rfl ⟨by omega, by simp⟩ (by
    rintro i ⟨k1, k2⟩ hE
    simp only [not_or, not_exists, not_and] at hE
    obtain ⟨e1, e2⟩ := hE
    obtain ⟨x, hx⟩ : ∃ x, c.ts[i]? = some x := ⟨_, List.getElem?_eq_getElem (by omega)⟩
    have d1 : decide ((i : Int) < (c.ts.length : Int)) = true := dec_t (by omega)
    have d2 : shortT x = true := by simpa using e2 x hx
    have d3 : IntKind.i64.wrap ((i : Int) + 1) = ((i + 1 : Nat) : Int) := wrap64 (by omega) (by omega)
    have hr := fun ro m hro => short_ev x (hc.arg.1 x (List.mem_of_getElem? hx)) ro m hro
    rw [d2] at hr
    refine ⟨i + 1, ⟨by omega, ?_⟩, by omega, ?_⟩
    · rw [List.take_add_one, hx, List.all_append, k2]; simp [d2]
    rw [round_go]
    simp only [go_sem, ↓reduceIte, d1, d3, hx, hr, hro, hro1])
  clear hL
  rw [loopW_go]
  rcases hE with rfl | ⟨x, hx, hz⟩
  · rw [List.take_length] at k2
    have d1 : decide ((c.ts.length : Int) < (c.ts.length : Int)) = false := dec_f (by omega)
    simp only [go_sem, ↓reduceIte, d1]
    generalize hL : loopW _ _ = L
    obtain ⟨i, ⟨k3, k4⟩, hE, rfl⟩ := loopW_at hL (fun i : Nat => [(21, .c (.v (.int .i64 i)))]) (fun _ => [] :: m) (fun i => i ≤ c.ss.length ∧ (c.ss.take i).all namedB = true) (fun i => i = c.ss.length ∨ ∃ x, c.ss[i]? = some x ∧ namedB x = false) (fun i => c.ss.length - i) 0 rfl rfl ⟨by omega, by simp⟩ (by
      rintro i ⟨k3, k4⟩ hE
      simp only [not_or, not_exists, not_and] at hE
      obtain ⟨e1, e2⟩ := hE
      obtain ⟨x, hx⟩ : ∃ x, c.ss[i]? = some x := ⟨_, List.getElem?_eq_getElem (by omega)⟩
      have d1 : decide ((i : Int) < (c.ss.length : Int)) = true := dec_t (by omega)
      have d2 : namedB x = true := by simpa using e2 x hx
      have d3 : IntKind.i64.wrap ((i : Int) + 1) = ((i + 1 : Nat) : Int) := wrap64 (by omega) (by omega)
      have hr := hcs x (List.mem_of_getElem? hx)
      rw [d2] at hr
      refine ⟨i + 1, ⟨by omega, ?_⟩, by omega, ?_⟩
      · rw [List.take_add_one, hx, List.all_append, k4]; simp [d2]
      rw [round_go]
      simp only [go_sem, ↓reduceIte, d1, d3, hx, hr, hro, hro1])
    clear hL
    rw [loopW_go]
    rcases hE with rfl | ⟨x, hx, hz⟩
    · rw [List.take_length] at k4
      have d2 : decide ((c.ss.length : Int) < (c.ss.length : Int)) = false := dec_f (by omega)
      have s1 := size100 c.nm
      have s2 := size100 c.so
      rw [k2, k4, ← s1, ← s2]
      cases h1 : decide ((c.nm.size : Int) ≤ 100) <;> cases h2 : decide ((c.so.size : Int) ≤ 100) <;> simp only [go_sem, ↓reduceIte, d2, h1, h2]
    · have hil := (List.getElem?_eq_some_iff.1 hx).1
      have d2 : decide ((i : Int) < (c.ss.length : Int)) = true := dec_t (by omega)
      have hr := hcs x (List.mem_of_getElem? hx)
      rw [hz] at hr
      have d3 : c.ss.all namedB = false := by
        rw [List.all_eq_false]
        exact ⟨x, List.mem_of_getElem? hx, by simp [hz]⟩
      rw [d3]
      simp only [go_sem, ↓reduceIte, d2, hx, hr, hro, hro1]
  · have hil := (List.getElem?_eq_some_iff.1 hx).1
    have d1 : decide ((i : Int) < (c.ts.length : Int)) = true := dec_t (by omega)
    have hr := fun ro m hro => short_ev x (hc.arg.1 x (List.mem_of_getElem? hx)) ro m hro
    rw [hz] at hr
    have d2 : c.ts.all shortT = false := by
      rw [List.all_eq_false]
      exact ⟨x, List.mem_of_getElem? hx, by simp [hz]⟩
    rw [d2]
    simp only [go_sem, ↓reduceIte, d1, hx, hr, hro, hro1]
/-- the claims that the laws look at -/
def plainB (c : Cl) (n : Nat) : Bool := !decide (n < sizeC c) && (rightC c == 0 && namedB c)
set_option maxHeartbeats 2000000 in
theorem plain_ev (c : Cl) (hc : okC c) (n : Nat) (hn : n ≤ 10000) (ro : Nat) (m : Mem) (hro : ro ≤ m.length) : evL Tryd.prog An ro 15 [.c (encC c), .c (.v (.int .i64 n))] m = some (.c (.v (.bool (plainB c n))), m) := by
  refine evL_by (n := 18) (by kernel_rfl) rfl fn15 rfl rfl rfl rfl ?_
  have hro1 : ro ≤ m.length + 1 := by omega
  have hb := fun ro m hro => big_ev c hc n hn ro m hro
  have hr := fun ro m hro => cRight_ev c hc ro m hro
  have hm := fun ro m hro => named_ev c hc ro m hro
  unfold plainB
  cases h1 : decide (n < sizeC c) with
  | true =>
    rw [h1] at hb
    simp only [go_sem, ↓reduceIte, hb, hro, hro1]
  | false =>
    rw [h1] at hb
    cases h2 : (rightC c == 0) with
    | false => simp only [go_sem, ↓reduceIte, hb, hr, h2, hro, hro1]
    | true => simp only [go_sem, ↓reduceIte, hb, hr, hm, h2, hro, hro1]
end Go.Eng
