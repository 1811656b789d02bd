-- own work: an evaluator of the program's code, and what it answers
import Derived.Test.YtdmoipccmbimhaaGreatDoorWellB
import Derived.Test.YtdmoipccmbimhaaGreatDoorEngC
set_option maxRecDepth 100000
set_option linter.unusedVariables false
set_option linter.unusedSimpArgs false
namespace Go.Eng
open Go Go.Proofs
theorem min_int {a b : Nat} : (if (b : Int) < (a : Int) then (b : Int) else (a : Int)) = ((min a b : Nat) : Int) := by split <;> omega
set_option maxHeartbeats 2000000 in
theorem f65_ev (c : Cl) (hc : okC c) (ro : Nat) (m : Mem) (hro : ro ≤ m.length) :
    evL Tryz.prog An ro 116 [.c (encC c)] m = some (.c (.v (.int .i64 (min (sizeC c) 4097 : Nat))), m) := by
  refine evL_by (n := 11) (by kernel_rfl) rfl fn116 rfl rfl rfl rfl ?_
  have h := fun (ro : Nat) (hro : ro ≤ m.length) => f85_ev c hc 0 (by omega) m.length ([(3, [.c (.v (.int .i64 (0 : Nat)))]), (4, [.fn (.func 156) [.p m.length 3 0, .p m.length 4 0]])] :: m) ro hro (by simp) (by rw [look_top]; rfl) (by rw [look_top]; rfl)
  have hm := cntC_min _ c 0 (Nat.le_refl _)
  rw [Nat.zero_add] at hm
  have e0 : ((0 : Nat) : Int) = 0 := rfl
  have hmi : (if (4097 : Int) < ((cntC 0 c : Nat) : Int) then (4097 : Int) else ((cntC 0 c : Nat) : Int)) = ((min (sizeC c) 4097 : Nat) : Int) := by rw [← hm]; split <;> omega
  have hlt : decide (m.length < m.length + 1) = true := dec_t (by omega)
  generalize cntC 0 c = q at h hmi
  simp only [put_top, upd, e0, reduceCtorEq, if_true, if_false] at h
  simp only [go_sem, ↓reduceIte, h, hro, hlt, hmi]
theorem binder_app {op : Int} : bindB op = (decide (op = 11) || decide (op = 12)) := by
  unfold bindB
  by_cases h : op = 11 <;> by_cases h2 : op = 12 <;> simp [h, h2]
/-- what is wrong with the parts of a claim, one by one -/
theorem rightTs_drop (l : List Tm) (i : Nat) (x : Tm) (h : l[i]? = some x) : rightTs (l.drop i) = if rightT x ≠ 0 then rightT x else rightTs (l.drop (i + 1)) := by
  rw [drop_get h, rightTs_cons]
theorem firstCs_drop (l : List Cl) (i : Nat) (x : Cl) (h : l[i]? = some x) : firstCs (l.drop i) = if firstC x ≠ 0 then firstC x else firstCs (l.drop (i + 1)) := by
  rw [drop_get h, firstCs_cons]
theorem rightTs_zero {l : List Tm} (h : rightTs l = 0) : ∀ x ∈ l, rightT x = 0 := by
  induction l with
  | nil => intro x hx; cases hx
  | cons y r ih =>
    intro x hx
    rw [rightTs_cons] at h
    split at h
    · rename_i h1; exact absurd h h1
    · rename_i h1
      rcases List.mem_cons.1 hx with rfl | hx
      · simpa using h1
      · exact ih h x hx
theorem firstCs_zero {l : List Cl} (h : firstCs l = 0) : ∀ x ∈ l, firstC x = 0 := by
  induction l with
  | nil => intro x hx; cases hx
  | cons y r ih =>
    intro x hx
    rw [firstCs_cons] at h
    split at h
    · rename_i h1; exact absurd h h1
    · rename_i h1
      rcases List.mem_cons.1 hx with rfl | hx
      · simpa using h1
      · exact ih h x hx
theorem str_ne {s : ByteArray} : (!(s.toList == ByteArray.empty.toList)) = true ↔ s.toList ≠ [] := by
  rw [bytes_empty]; simp
def boxClaim (c : Cl) : V := .c (.fp [.v (.int .i64 c.op), .v (.string c.nm), .v (.string c.so), .sl (c.ts.map encT), .sl (c.ss.map encC)])
attribute [go_sem] boxClaim
set_option maxHeartbeats 16000000 in
theorem f66_ev (c : Cl) (hc : okC c) (ro : Nat) (m : Mem) (hro : ro ≤ m.length) :
    evL Tryz.prog An ro 117 [.c (encC c)] m = some (.c (.v (.int .i64 (firstC c))), m) := by
  induction hd : SizeOf.sizeOf c using Nat.strongRecOn generalizing c ro m with
  | _ d ih =>
  have hts := hc.len.1
  have hss := hc.len.2
  rw [maxLen_eq] at hts hss
  have hro1 : ro ≤ m.length + 1 := by omega
  have hfc := firstC_eq c
  refine evL_by (n := 98) (by kernel_rfl) rfl fn117 rfl rfl rfl rfl ?_
  refine cut ⟨[.c (encC c), boxClaim c, .c (.v (.int .i64 0))] ++ List.replicate 95 .undef, [] :: m⟩ rfl (by simp only [go_sem, ↓reduceIte, upS_n, leL_nil, leL_cons, or_true, true_or, and_self]) ?_
  have hb := fun ro m => f86_ev c ro m
  by_cases h1 : (c.op < 1 ∨ 12 < c.op) ∨ (c.nm.toList ≠ [] ∧ c.op ≠ 3 ∧ bindB c.op = false) ∨ (c.so.toList ≠ [] ∧ bindB c.op = false)
  · have e7 : firstC c = 7 := by
      have : cpartE c = 7 := by unfold cpartE; rw [if_pos h1]
      rw [hfc, this]; rfl
    rw [e7]
    cases a1 : decide (c.op < 1) with
    | true => simp only [go_sem, ↓reduceIte, a1]
    | false =>
    cases a2 : decide (c.op > 12) with
    | true => simp only [go_sem, ↓reduceIte, a1, a2]
    | false =>
    have n1 := of_decide_eq_false a1
    have n2 := of_decide_eq_false a2
    have h2 := h1.resolve_left (by omega)
    have bd : bindB c.op = false := h2.elim (fun h => h.2.2) (fun h => h.2)
    rw [bd] at hb
    cases b1 : (c.nm.toList == ByteArray.empty.toList) with
    | true =>
      have b2 : (c.so.toList == ByteArray.empty.toList) = false := by
        rcases h2 with h2 | h2
        · exact absurd h2.1 (by rw [nm_empty, b1]; simp)
        · exact nm_empty.1 h2.1
      simp only [go_sem, ↓reduceIte, a1, a2, b1, b2, hb]
    | false =>
    cases b3 : (c.op != 3) with
    | true => simp only [go_sem, ↓reduceIte, a1, a2, b1, b3, hb]
    | false =>
      have b2 : (c.so.toList == ByteArray.empty.toList) = false := by
        rcases h2 with h2 | h2
        · exact absurd h2.2.1 (by simpa using b3)
        · exact nm_empty.1 h2.1
      simp only [go_sem, ↓reduceIte, a1, a2, b1, b2, b3, hb]
  · simp only [not_or] at h1
    obtain ⟨⟨o1, o2⟩, o3, o4⟩ := h1
    have a1 : decide (c.op < 1) = false := dec_f o1
    have a2 : decide (c.op > 12) = false := dec_f o2
    have hk1 : ¬ ((c.op < 1 ∨ 12 < c.op) ∨ (c.nm.toList ≠ [] ∧ c.op ≠ 3 ∧ bindB c.op = false) ∨ (c.so.toList ≠ [] ∧ bindB c.op = false)) := by
      simp only [not_or]; exact ⟨⟨o1, o2⟩, o3, o4⟩
    refine cut ⟨[.c (encC c), boxClaim c, .c (.v (.int .i64 0))] ++ List.replicate 95 .undef, [] :: m⟩ rfl ?_ ?_
    · cases b1 : (c.nm.toList == ByteArray.empty.toList) with
      | true =>
        cases b2 : (c.so.toList == ByteArray.empty.toList) with
        | true => simp only [go_sem, ↓reduceIte, a1, a2, b1, b2, upS_n, leL_nil, leL_cons, or_true, true_or, and_self]
        | false =>
          have bd : bindB c.op = true := by
            cases hb2 : bindB c.op with
            | true => rfl
            | false => exact absurd ⟨nm_empty.2 b2, hb2⟩ o4
          rw [bd] at hb
          simp only [go_sem, ↓reduceIte, a1, a2, b1, b2, hb, upS_n, leL_nil, leL_cons, or_true, true_or, and_self]
      | false =>
        cases b3 : (c.op != 3) with
        | true =>
          have bd : bindB c.op = true := by
            cases hb2 : bindB c.op with
            | true => rfl
            | false => exact absurd ⟨nm_empty.2 b1, by simpa using b3, hb2⟩ o3
          rw [bd] at hb
          cases b2 : (c.so.toList == ByteArray.empty.toList) <;> simp only [go_sem, ↓reduceIte, a1, a2, b1, b2, b3, hb, upS_n, leL_nil, leL_cons, or_true, true_or, and_self]
        | false =>
          have hop : c.op = 3 := by simpa using b3
          have bd : bindB c.op = false := by rw [hop]; rfl
          rw [bd] at hb
          cases b2 : (c.so.toList == ByteArray.empty.toList) with
          | true => simp only [go_sem, ↓reduceIte, a1, a2, b1, b2, b3, hb, upS_n, leL_nil, leL_cons, or_true, true_or, and_self]
          | false => exact absurd ⟨nm_empty.2 b2, bd⟩ o4
    · have ha := fun ro m => f87_ev c.op ro m
      refine cut ⟨[.c (encC c), boxClaim c, .c (.v (.int .i64 0)), .c (.v (.int .i64 (arityT c.op))), .c (.v (.int .i64 (arityS c.op)))] ++ List.replicate 93 .undef, [] :: m⟩ rfl (by simp only [go_sem, ↓reduceIte, ha, upS_n, leL_nil, leL_cons, or_true, true_or, and_self]) ?_
      clear ha
      have hcp : cpartE c = if (0 ≤ arityT c.op ∧ (c.ts.length : Int) ≠ arityT c.op) ∨ 8 < c.ts.length ∨ (c.ss.length : Int) ≠ arityS c.op then 12 else 0 := by
        unfold cpartE; rw [if_neg hk1]
      by_cases h2 : (0 ≤ arityT c.op ∧ (c.ts.length : Int) ≠ arityT c.op) ∨ 8 < c.ts.length ∨ (c.ss.length : Int) ≠ arityS c.op
      · rw [if_pos h2] at hcp
        have e12 : firstC c = 12 := by rw [hfc, hcp]; rfl
        rw [e12]
        generalize arityT c.op = aT at h2 ⊢
        generalize arityS c.op = aS at h2 ⊢
        cases g : decide (aT ≥ 0) with
        | true =>
          cases n1 : ((c.ts.length : Int) != aT) with
          | true => simp only [go_sem, ↓reduceIte, g, n1]
          | false =>
            cases n2 : decide ((c.ts.length : Int) > 8) with
            | true => simp only [go_sem, ↓reduceIte, g, n1, n2]
            | false =>
              have n3 : ((c.ss.length : Int) != aS) = true := by
                have k1 : (c.ts.length : Int) = aT := by simpa using n1
                have k2 := of_decide_eq_false n2
                exact bne_t (by omega)
              simp only [go_sem, ↓reduceIte, g, n1, n2, n3]
        | false =>
          cases n2 : decide ((c.ts.length : Int) > 8) with
          | true => simp only [go_sem, ↓reduceIte, g, n2]
          | false =>
            have n3 : ((c.ss.length : Int) != aS) = true := by
              have k1 := of_decide_eq_false g
              have k2 := of_decide_eq_false n2
              exact bne_t (by omega)
            simp only [go_sem, ↓reduceIte, g, n2, n3]
      · rw [if_neg h2] at hcp
        rw [hcp, if_neg (by simp)] at hfc
        simp only [not_or] at h2
        obtain ⟨g1, g2, g3⟩ := h2
        refine cut ⟨[.c (encC c), boxClaim c, .c (.v (.int .i64 0))] ++ List.replicate 95 .undef, [] :: m⟩ rfl ?_ ?_
        · have n2 : decide ((c.ts.length : Int) > 8) = false := dec_f (by omega)
          have n3 : ((c.ss.length : Int) != arityS c.op) = false := bne_f (by omega)
          cases g : decide (arityT c.op ≥ 0) with
          | true =>
            have k1 := of_decide_eq_true g
            have n1 : ((c.ts.length : Int) != arityT c.op) = false := bne_f (by omega)
            simp only [go_sem, ↓reduceIte, g, n1, n2, n3, upS_n, leL_nil, leL_cons, or_true, true_or, and_self]
          | false => simp only [go_sem, ↓reduceIte, g, n2, n3, upS_n, leL_nil, leL_cons, or_true, true_or, and_self]
        · by_cases h3 : rightTs c.ts ≠ 0
          · rw [if_pos h3] at hfc
            simp only [go_sem, ↓reduceIte]
            generalize hL : loopW _ _ = L
            obtain ⟨i, ⟨k1, k2⟩, hE, rfl⟩ := loopW_at hL (fun i : Nat => [(75, .c (.v (.int .i64 i)))]) (fun _ => [] :: m) (fun i => i ≤ c.ts.length ∧ rightTs c.ts = rightTs (c.ts.drop i)) (fun i => i = c.ts.length ∨ ∃ x, c.ts[i]? = some x ∧ rightT x ≠ 0) (fun i => c.ts.length - i) 0 rfl rfl ⟨by omega, by simp⟩ (by
              rintro i ⟨k1, k2⟩ hE
              simp only [not_or, not_exists, not_and] at hE
              obtain ⟨k3, k4⟩ := hE
              obtain ⟨x, hx⟩ : ∃ x, c.ts[i]? = some x := ⟨_, List.getElem?_eq_getElem (by omega)⟩
              have c1 : decide ((i : Int) < (c.ts.length : Int)) = true := dec_t (by omega)
              have c3 : IntKind.i64.wrap ((i : Int) + 1) = ((i + 1 : Nat) : Int) := wrap64 (by omega) (by omega)
              have hz : rightT x = 0 := by simpa using k4 x hx
              have hr := fun ro m => right_ev x (hc.arg.1 x (List.mem_of_getElem? hx)) ro m
              rw [hz] at hr
              have c2 : ((0 : Int) != 0) = false := rfl
              refine ⟨i + 1, ⟨by omega, ?_⟩, by omega, ?_⟩
              · rw [k2, rightTs_drop _ _ _ hx, if_neg (by simp [hz])]
              · rw [round_go]
                simp only [go_sem, ↓reduceIte, c1, c2, c3, hx, hr, hro, hro1])
            clear hL
            rw [loopW_go]
            rcases hE with rfl | ⟨x, hx, hz⟩
            · exact absurd (by rw [k2]; simp [rightTs]) h3
            · have hil := (List.getElem?_eq_some_iff.1 hx).1
              have c1 : decide ((i : Int) < (c.ts.length : Int)) = true := dec_t (by omega)
              have hr := fun ro m => right_ev x (hc.arg.1 x (List.mem_of_getElem? hx)) ro m
              have c2 : (rightT x != 0) = true := by simpa using hz
              have hv : rightTs c.ts = rightT x := by rw [k2, rightTs_drop _ _ _ hx, if_pos hz]
              rw [hv] at hfc
              rw [hfc]
              simp only [go_sem, ↓reduceIte, c1, c2, hx, hr, hro, hro1]
          · rw [if_neg h3] at hfc
            have h3 : rightTs c.ts = 0 := by simpa using h3
            refine cut ⟨[.c (encC c), boxClaim c, .c (.v (.int .i64 0))] ++ List.replicate 95 .undef, [] :: m⟩ rfl ?_ ?_
            · simp only [go_sem, ↓reduceIte]
              generalize hL : loopW _ _ = L
              obtain ⟨i, ⟨k1, k2⟩, hE, rfl⟩ := loopW_at hL (fun i : Nat => [(75, .c (.v (.int .i64 i)))]) (fun _ => [] :: m) (fun i => i ≤ c.ts.length ∧ rightTs c.ts = rightTs (c.ts.drop i)) (fun i => i = c.ts.length ∨ ∃ x, c.ts[i]? = some x ∧ rightT x ≠ 0) (fun i => c.ts.length - i) 0 rfl rfl ⟨by omega, by simp⟩ (by
                rintro i ⟨k1, k2⟩ hE
                simp only [not_or, not_exists, not_and] at hE
                obtain ⟨k3, k4⟩ := hE
                obtain ⟨x, hx⟩ : ∃ x, c.ts[i]? = some x := ⟨_, List.getElem?_eq_getElem (by omega)⟩
                have c1 : decide ((i : Int) < (c.ts.length : Int)) = true := dec_t (by omega)
                have c3 : IntKind.i64.wrap ((i : Int) + 1) = ((i + 1 : Nat) : Int) := wrap64 (by omega) (by omega)
                have hz : rightT x = 0 := by simpa using k4 x hx
                have hr := fun ro m => right_ev x (hc.arg.1 x (List.mem_of_getElem? hx)) ro m
                rw [hz] at hr
                have c2 : ((0 : Int) != 0) = false := rfl
                refine ⟨i + 1, ⟨by omega, ?_⟩, by omega, ?_⟩
                · rw [k2, rightTs_drop _ _ _ hx, if_neg (by simp [hz])]
                · rw [round_go]
                  simp only [go_sem, ↓reduceIte, c1, c2, c3, hx, hr, hro, hro1])
              clear hL
              rw [loopW_go]
              have hi : i = c.ts.length := by
                rcases hE with h | ⟨x, hx, hz⟩
                · exact h
                · exact absurd (rightTs_zero h3 x (List.mem_of_getElem? hx)) hz
              subst hi
              have c1 : decide ((c.ts.length : Int) < (c.ts.length : Int)) = false := dec_f (by omega)
              simp only [go_sem, ↓reduceIte, c1, upS_n, leL_nil, leL_cons, or_true, true_or, and_self]
            · clear h3
              by_cases h3 : firstCs c.ss ≠ 0
              · simp only [go_sem, ↓reduceIte]
                generalize hL : loopW _ _ = L
                obtain ⟨i, ⟨k1, k2⟩, hE, rfl⟩ := loopW_at hL (fun i : Nat => [(88, .c (.v (.int .i64 i)))]) (fun _ => [] :: m) (fun i => i ≤ c.ss.length ∧ firstCs c.ss = firstCs (c.ss.drop i)) (fun i => i = c.ss.length ∨ ∃ x, c.ss[i]? = some x ∧ firstC x ≠ 0) (fun i => c.ss.length - i) 0 rfl rfl ⟨by omega, by simp⟩ (by
                  rintro i ⟨k1, k2⟩ hE
                  simp only [not_or, not_exists, not_and] at hE
                  obtain ⟨k3, k4⟩ := hE
                  obtain ⟨x, hx⟩ : ∃ x, c.ss[i]? = some x := ⟨_, List.getElem?_eq_getElem (by omega)⟩
                  have c1 : decide ((i : Int) < (c.ss.length : Int)) = true := dec_t (by omega)
                  have c3 : IntKind.i64.wrap ((i : Int) + 1) = ((i + 1 : Nat) : Int) := wrap64 (by omega) (by omega)
                  have hz : firstC x = 0 := by simpa using k4 x hx
                  have hr := fun (ro : Nat) (m : Mem) (hro : ro ≤ m.length) => ih _ (by have := Cl.lt (List.mem_of_getElem? hx); omega) x (hc.arg.2 x (List.mem_of_getElem? hx)) ro m hro rfl
                  rw [hz] at hr
                  have c2 : ((0 : Int) != 0) = false := rfl
                  refine ⟨i + 1, ⟨by omega, ?_⟩, by omega, ?_⟩
                  · rw [k2, firstCs_drop _ _ _ hx, if_neg (by simp [hz])]
                  · rw [round_go]
                    simp only [go_sem, ↓reduceIte, c1, c2, c3, hx, hr, hro, hro1])
                clear hL
                rw [loopW_go]
                rcases hE with rfl | ⟨x, hx, hz⟩
                · exact absurd (by rw [k2]; simp [firstCs, firstCs]) h3
                · have hil := (List.getElem?_eq_some_iff.1 hx).1
                  have c1 : decide ((i : Int) < (c.ss.length : Int)) = true := dec_t (by omega)
                  have hr := fun (ro : Nat) (m : Mem) (hro : ro ≤ m.length) => ih _ (by have := Cl.lt (List.mem_of_getElem? hx); omega) x (hc.arg.2 x (List.mem_of_getElem? hx)) ro m hro rfl
                  have c2 : (firstC x != 0) = true := by simpa using hz
                  have hv : firstCs c.ss = firstC x := by rw [k2, firstCs_drop _ _ _ hx, if_pos hz]
                  rw [hv] at hfc
                  rw [hfc]
                  simp only [go_sem, ↓reduceIte, c1, c2, hx, hr, hro, hro1]
              · have h3 : firstCs c.ss = 0 := by simpa using h3
                rw [h3] at hfc
                rw [hfc]
                simp only [go_sem, ↓reduceIte]
                generalize hL : loopW _ _ = L
                obtain ⟨i, ⟨k1, k2⟩, hE, rfl⟩ := loopW_at hL (fun i : Nat => [(88, .c (.v (.int .i64 i)))]) (fun _ => [] :: m) (fun i => i ≤ c.ss.length ∧ firstCs c.ss = firstCs (c.ss.drop i)) (fun i => i = c.ss.length ∨ ∃ x, c.ss[i]? = some x ∧ firstC x ≠ 0) (fun i => c.ss.length - i) 0 rfl rfl ⟨by omega, by simp⟩ (by
                  rintro i ⟨k1, k2⟩ hE
                  simp only [not_or, not_exists, not_and] at hE
                  obtain ⟨k3, k4⟩ := hE
                  obtain ⟨x, hx⟩ : ∃ x, c.ss[i]? = some x := ⟨_, List.getElem?_eq_getElem (by omega)⟩
                  have c1 : decide ((i : Int) < (c.ss.length : Int)) = true := dec_t (by omega)
                  have c3 : IntKind.i64.wrap ((i : Int) + 1) = ((i + 1 : Nat) : Int) := wrap64 (by omega) (by omega)
                  have hz : firstC x = 0 := by simpa using k4 x hx
                  have hr := fun (ro : Nat) (m : Mem) (hro : ro ≤ m.length) => ih _ (by have := Cl.lt (List.mem_of_getElem? hx); omega) x (hc.arg.2 x (List.mem_of_getElem? hx)) ro m hro rfl
                  rw [hz] at hr
                  have c2 : ((0 : Int) != 0) = false := rfl
                  refine ⟨i + 1, ⟨by omega, ?_⟩, by omega, ?_⟩
                  · rw [k2, firstCs_drop _ _ _ hx, if_neg (by simp [hz])]
                  · rw [round_go]
                    simp only [go_sem, ↓reduceIte, c1, c2, c3, hx, hr, hro, hro1])
                clear hL
                rw [loopW_go]
                have hi : i = c.ss.length := by
                  rcases hE with h | ⟨x, hx, hz⟩
                  · exact h
                  · exact absurd (firstCs_zero h3 x (List.mem_of_getElem? hx)) hz
                subst hi
                have c1 : decide ((c.ss.length : Int) < (c.ss.length : Int)) = false := dec_f (by omega)
                simp only [go_sem, ↓reduceIte, c1]
end Go.Eng
