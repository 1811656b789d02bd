-- own work: an evaluator of the program's code, and what it answers
import Derived.Test.YtdmoipccmbimhaaGreatDoorA1
import Derived.Test.YtdmoipccmbimhaaGreatDoorR6
import Derived.Test.YtdmoipccmbimhaaGreatDoorZ16N
/- The law of claims that are alike. -/
set_option maxRecDepth 100000
set_option linter.unusedVariables false
set_option linter.unusedSimpArgs false
namespace Go.Eng
open Go Go.Proofs
theorem len_sizeCs : ∀ l : List Cl, l.length ≤ sizeCs l
  | [] => by simp
  | x :: r => by
    have := len_sizeCs r
    have : 1 ≤ sizeC x := by rw [sizeC_eqn]; omega
    rw [sizeCs, List.length_cons]; omega
theorem len_sizeTs : ∀ l : List Tm, l.length ≤ sizeTs l
  | [] => by simp
  | x :: r => by
    have := len_sizeTs r
    have : 1 ≤ sizeT x := by rw [sizeT_eq]; omega
    rw [sizeTs, List.length_cons]; omega
theorem headOK_C (l : List Cl) : headOK 5 (l.map encC) = true := by
  cases l with
  | nil => rfl
  | cons x r => simp [headOK, encC_cells]
attribute [go_sem] headOK_C
/-- a claim's box, its claims apart -/
def boxN (op : Int) (nm so : ByteArray) (ts : List Tm) (x : V) : Box := [.c (.v (.int .i64 op)), .c (.v (.string nm)), .c (.v (.string so)), .c (.sl (ts.map encT)), x]
def boxC0 : Box := [.c (.v (.int .i64 0)), .c (.v (.string ByteArray.empty)), .c (.v (.string ByteArray.empty)), .tip none [], .tip none []]
theorem lt05 : ((0 : Nat) < 5) = True := by simp
theorem sl1 (n : Nat) : ((0 : Int) ≤ 1 ∧ (1 : Int) ≤ ((n + 1 : Nat) : Int)) = True := by
  simp
  omega
theorem sl2 (l : List ByteArray) : List.take (l.length + 1 - 1) (l.map cS) = l.map cS := List.take_of_length_le (by simp)
theorem bind_of {op : Int} : bindB op = ((op == 11) || (op == 12)) := rfl
theorem C_snoc (l : List Cl) (x : Cl) : List.map encC l ++ [encC x] = List.map encC (l ++ [x]) := by simp
theorem named_rest : ∀ (l : List Cl) (ns : List ByteArray), (namedCs l ns).2.length ≤ ns.length := by
  have h : ∀ d, (∀ (c : Cl) (ns : List ByteArray), SizeOf.sizeOf c ≤ d → (namedC c ns).2.length ≤ ns.length) := by
    intro d
    induction d with
    | zero => intro c ns h; cases c; simp at h
    | succ d ih =>
      intro c ns h
      obtain ⟨op, nm, so, ts, ss⟩ := c
      simp only [namedC]
      have h1 : (nsN op ns).length ≤ ns.length := by
        unfold nsN
        split
        · simp
        · exact Nat.le_refl _
      have key : ∀ (l : List Cl) (ns : List ByteArray), (∀ x ∈ l, SizeOf.sizeOf x ≤ d) → (namedCs l ns).2.length ≤ ns.length := by
        intro l
        induction l with
        | nil => intro ns _; exact Nat.le_refl _
        | cons x r ihl =>
          intro ns hx
          simp only [namedCs]
          have a1 := ihl (namedC x ns).2 (fun y hy => hx y (by simp [hy]))
          have a2 := ih x ns (hx x (by simp))
          omega
      have := key ss (nsN op ns) (fun x hx => by have := List.sizeOf_lt_of_mem hx; simp at h; omega)
      omega
  intro l
  induction l with
  | nil => intro ns; exact Nat.le_refl _
  | cons x r ih =>
    intro ns
    simp only [namedCs]
    have := ih (namedC x ns).2
    have := h _ x ns (Nat.le_refl _)
    omega
set_option maxHeartbeats 16000000 in
theorem named_ev (c : Cl) (hc : okC c) (ns : List ByteArray) (hns : ns.length ≤ maxLen) (hsz : sizeC c ≤ 1000) (ro : Nat) (m : Mem) (hro : ro ≤ m.length) :
    evL Tryz.prog AnZ ro 19 [.c (encC c), .c (.sl (ns.map cS))] m = some (.tup [.c (encC (namedC c ns).1), .c (.sl ((namedC c ns).2.map cS))], m) := by
  induction hd : SizeOf.sizeOf c using Nat.strongRecOn generalizing c ns ro m with
  | _ d ih =>
  have hro1 : ro ≤ m.length + 1 := by omega
  rw [maxLen_eq] at hns
  have hlen : c.ss.length ≤ 1000 := by
    have := len_sizeCs c.ss
    rw [sizeC_eqn] at hsz; omega
  refine evL_by (n := 64) (by kernel_rfl) rfl fn19 rfl rfl rfl rfl ?_
  have hcase : (∃ b11 b12 b0 nm' ns', (c.op == 11) = b11 ∧ (c.op == 12) = b12 ∧ decide ((ns.length : Int) > 0) = b0 ∧ nmN c.op c.nm ns = nm' ∧ nsN c.op ns = ns' ∧
      ((b11 = false ∧ b12 = false ∧ nm' = c.nm ∧ ns' = ns) ∨ (b11 = true ∧ b0 = false ∧ nm' = c.nm ∧ ns' = ns) ∨ (b11 = false ∧ b12 = true ∧ b0 = false ∧ nm' = c.nm ∧ ns' = ns) ∨
      (b11 = true ∧ b0 = true ∧ ∃ r, ns = nm' :: r ∧ ns' = r) ∨ (b11 = false ∧ b12 = true ∧ b0 = true ∧ ∃ r, ns = nm' :: r ∧ ns' = r))) := by
    refine ⟨_, _, _, _, _, rfl, rfl, rfl, rfl, rfl, ?_⟩
    unfold nmN nsN
    rw [bind_of]
    cases h1 : (c.op == 11) <;> cases h2 : (c.op == 12) <;> cases ns <;> simp <;> omega
  obtain ⟨b11, b12, b0, nm', ns', d11, d12, d0, hn, hs, hcase⟩ := hcase
  rw [namedC_eq, hn, hs]
  have hns' : ns'.length ≤ 9223372036854775807 := by
    have : (nsN c.op ns).length ≤ ns.length := by
      unfold nsN
      split
      · simp
      · exact Nat.le_refl _
    rw [hs] at this; omega
  rcases hcase with ⟨rfl, rfl, rfl, rfl⟩ | ⟨rfl, rfl, rfl, rfl⟩ | ⟨rfl, rfl, rfl, rfl, rfl⟩ | ⟨rfl, rfl, r, rfl, rfl⟩ | ⟨rfl, rfl, rfl, r, rfl, rfl⟩
  · clear hn hs
    try simp only [List.length_cons] at d0
    simp only [go_sem, ↓reduceIte, d11, d12, d0, hro, hro1, sl1, sl2]
    generalize hL : loopW _ _ = L
    obtain ⟨i, k1, hE, rfl⟩ := loopW_at hL (fun i : Nat => [(1, .c (.sl ((namedCs (c.ss.take i) ns').2.map cS))), (7, .c (.v (.int .i64 i)))])
      (fun i : Nat => [(4, boxC0), (6, boxN c.op c.nm c.so c.ts (.tip (if i = 0 then none else some 5) ((namedCs (c.ss.take i) ns').1.map encC)))] :: m) (fun i => i ≤ c.ss.length) (fun i => i = c.ss.length) (fun i => c.ss.length - i) 0
      (by simp only [go_sem, List.take_zero, namedCs]; try rfl) (by simp only [go_sem, boxN, boxC0, List.take_zero, namedCs, ↓reduceIte]; try rfl) (by omega) (by
      rintro i k1 hE
      obtain ⟨x, hx⟩ : ∃ x, c.ss[i]? = some x := ⟨_, List.getElem?_eq_getElem (by omega)⟩
      have c1 : decide ((i : Int) < (c.ss.length : Int)) = true := dec_t (by omega)
      have c3 : IntKind.i64.wrap ((i : Int) + 1) = ((i + 1 : Nat) : Int) := wrap64 (by omega) (by omega)
      have c4 : (i + 1 = 0) = False := by simp
      have hmem := List.mem_of_getElem? hx
      have hrest := named_rest (c.ss.take i) ns'
      have hsx := sizeC_arg hmem
      have hsub := fun ro m hro => ih _ (by have := Cl.lt hmem; omega) x (hc.arg.2 x hmem) (namedCs (c.ss.take i) ns').2 (by rw [maxLen_eq]; omega) (by omega) ro m hro rfl
      have hql : (namedCs (c.ss.take i) ns').1.length = i := by rw [namedCs_len, List.length_take]; omega
      have htk := namedCs_take hx ns'
      have hos : (if i = 0 then none else some 5 : Option Nat) = none ∨ (if i = 0 then none else some 5 : Option Nat) = some 5 := by split <;> simp
      refine ⟨i + 1, by omega, by omega, ?_⟩
      rw [round_go, htk]
      generalize (if i = 0 then none else some 5 : Option Nat) = os at hos ⊢
      generalize namedCs (c.ss.take i) ns' = q at hsub hql ⊢
      obtain ⟨q1, q2⟩ := q
      dsimp only at hsub hql ⊢
      have c5 : (q1.length + 1) * 88 ≤ 140737488355328 := by omega
      have c6 : q1.length + 1 ≤ 9223372036854775807 := by omega
      generalize namedC x q2 = z at hsub ⊢
      obtain ⟨z1, z2⟩ := z
      simp only [go_sem, ↓reduceIte, boxN, boxC0, c1, c3, c4, c5, c6, hos, hx, hsub, hro, hro1, List.map_append, lt05])
    clear hL
    subst hE
    rw [loopW_go]
    have c1 : decide ((c.ss.length : Int) < (c.ss.length : Int)) = false := dec_f (by omega)
    rw [List.take_length]
    generalize (if c.ss.length = 0 then none else some 5 : Option Nat) = os
    generalize namedCs c.ss ns' = q
    obtain ⟨q1, q2⟩ := q
    simp only [go_sem, ↓reduceIte, boxN, boxC0, c1, hro, hro1]
    rw [encC_mk]
    rfl
  · clear hn hs
    try simp only [List.length_cons] at d0
    simp only [go_sem, ↓reduceIte, d11, d12, d0, hro, hro1, sl1, sl2]
    generalize hL : loopW _ _ = L
    obtain ⟨i, k1, hE, rfl⟩ := loopW_at hL (fun i : Nat => [(1, .c (.sl ((namedCs (c.ss.take i) ns').2.map cS))), (7, .c (.v (.int .i64 i)))])
      (fun i : Nat => [(4, boxC0), (6, boxN c.op c.nm c.so c.ts (.tip (if i = 0 then none else some 5) ((namedCs (c.ss.take i) ns').1.map encC)))] :: m) (fun i => i ≤ c.ss.length) (fun i => i = c.ss.length) (fun i => c.ss.length - i) 0
      (by simp only [go_sem, List.take_zero, namedCs]; try rfl) (by simp only [go_sem, boxN, boxC0, List.take_zero, namedCs, ↓reduceIte]; try rfl) (by omega) (by
      rintro i k1 hE
      obtain ⟨x, hx⟩ : ∃ x, c.ss[i]? = some x := ⟨_, List.getElem?_eq_getElem (by omega)⟩
      have c1 : decide ((i : Int) < (c.ss.length : Int)) = true := dec_t (by omega)
      have c3 : IntKind.i64.wrap ((i : Int) + 1) = ((i + 1 : Nat) : Int) := wrap64 (by omega) (by omega)
      have c4 : (i + 1 = 0) = False := by simp
      have hmem := List.mem_of_getElem? hx
      have hrest := named_rest (c.ss.take i) ns'
      have hsx := sizeC_arg hmem
      have hsub := fun ro m hro => ih _ (by have := Cl.lt hmem; omega) x (hc.arg.2 x hmem) (namedCs (c.ss.take i) ns').2 (by rw [maxLen_eq]; omega) (by omega) ro m hro rfl
      have hql : (namedCs (c.ss.take i) ns').1.length = i := by rw [namedCs_len, List.length_take]; omega
      have htk := namedCs_take hx ns'
      have hos : (if i = 0 then none else some 5 : Option Nat) = none ∨ (if i = 0 then none else some 5 : Option Nat) = some 5 := by split <;> simp
      refine ⟨i + 1, by omega, by omega, ?_⟩
      rw [round_go, htk]
      generalize (if i = 0 then none else some 5 : Option Nat) = os at hos ⊢
      generalize namedCs (c.ss.take i) ns' = q at hsub hql ⊢
      obtain ⟨q1, q2⟩ := q
      dsimp only at hsub hql ⊢
      have c5 : (q1.length + 1) * 88 ≤ 140737488355328 := by omega
      have c6 : q1.length + 1 ≤ 9223372036854775807 := by omega
      generalize namedC x q2 = z at hsub ⊢
      obtain ⟨z1, z2⟩ := z
      simp only [go_sem, ↓reduceIte, boxN, boxC0, c1, c3, c4, c5, c6, hos, hx, hsub, hro, hro1, List.map_append, lt05])
    clear hL
    subst hE
    rw [loopW_go]
    have c1 : decide ((c.ss.length : Int) < (c.ss.length : Int)) = false := dec_f (by omega)
    rw [List.take_length]
    generalize (if c.ss.length = 0 then none else some 5 : Option Nat) = os
    generalize namedCs c.ss ns' = q
    obtain ⟨q1, q2⟩ := q
    simp only [go_sem, ↓reduceIte, boxN, boxC0, c1, hro, hro1]
    rw [encC_mk]
    rfl
  · clear hn hs
    try simp only [List.length_cons] at d0
    simp only [go_sem, ↓reduceIte, d11, d12, d0, hro, hro1, sl1, sl2]
    generalize hL : loopW _ _ = L
    obtain ⟨i, k1, hE, rfl⟩ := loopW_at hL (fun i : Nat => [(1, .c (.sl ((namedCs (c.ss.take i) ns').2.map cS))), (7, .c (.v (.int .i64 i)))])
      (fun i : Nat => [(4, boxC0), (6, boxN c.op c.nm c.so c.ts (.tip (if i = 0 then none else some 5) ((namedCs (c.ss.take i) ns').1.map encC)))] :: m) (fun i => i ≤ c.ss.length) (fun i => i = c.ss.length) (fun i => c.ss.length - i) 0
      (by simp only [go_sem, List.take_zero, namedCs]; try rfl) (by simp only [go_sem, boxN, boxC0, List.take_zero, namedCs, ↓reduceIte]; try rfl) (by omega) (by
      rintro i k1 hE
      obtain ⟨x, hx⟩ : ∃ x, c.ss[i]? = some x := ⟨_, List.getElem?_eq_getElem (by omega)⟩
      have c1 : decide ((i : Int) < (c.ss.length : Int)) = true := dec_t (by omega)
      have c3 : IntKind.i64.wrap ((i : Int) + 1) = ((i + 1 : Nat) : Int) := wrap64 (by omega) (by omega)
      have c4 : (i + 1 = 0) = False := by simp
      have hmem := List.mem_of_getElem? hx
      have hrest := named_rest (c.ss.take i) ns'
      have hsx := sizeC_arg hmem
      have hsub := fun ro m hro => ih _ (by have := Cl.lt hmem; omega) x (hc.arg.2 x hmem) (namedCs (c.ss.take i) ns').2 (by rw [maxLen_eq]; omega) (by omega) ro m hro rfl
      have hql : (namedCs (c.ss.take i) ns').1.length = i := by rw [namedCs_len, List.length_take]; omega
      have htk := namedCs_take hx ns'
      have hos : (if i = 0 then none else some 5 : Option Nat) = none ∨ (if i = 0 then none else some 5 : Option Nat) = some 5 := by split <;> simp
      refine ⟨i + 1, by omega, by omega, ?_⟩
      rw [round_go, htk]
      generalize (if i = 0 then none else some 5 : Option Nat) = os at hos ⊢
      generalize namedCs (c.ss.take i) ns' = q at hsub hql ⊢
      obtain ⟨q1, q2⟩ := q
      dsimp only at hsub hql ⊢
      have c5 : (q1.length + 1) * 88 ≤ 140737488355328 := by omega
      have c6 : q1.length + 1 ≤ 9223372036854775807 := by omega
      generalize namedC x q2 = z at hsub ⊢
      obtain ⟨z1, z2⟩ := z
      simp only [go_sem, ↓reduceIte, boxN, boxC0, c1, c3, c4, c5, c6, hos, hx, hsub, hro, hro1, List.map_append, lt05])
    clear hL
    subst hE
    rw [loopW_go]
    have c1 : decide ((c.ss.length : Int) < (c.ss.length : Int)) = false := dec_f (by omega)
    rw [List.take_length]
    generalize (if c.ss.length = 0 then none else some 5 : Option Nat) = os
    generalize namedCs c.ss ns' = q
    obtain ⟨q1, q2⟩ := q
    simp only [go_sem, ↓reduceIte, boxN, boxC0, c1, hro, hro1]
    rw [encC_mk]
    rfl
  · clear hn hs
    try simp only [List.length_cons] at d0
    simp only [go_sem, ↓reduceIte, d11, d12, d0, hro, hro1, sl1, sl2]
    generalize hL : loopW _ _ = L
    obtain ⟨i, k1, hE, rfl⟩ := loopW_at hL (fun i : Nat => [(1, .c (.sl ((namedCs (c.ss.take i) ns').2.map cS))), (7, .c (.v (.int .i64 i)))])
      (fun i : Nat => [(4, boxC0), (6, boxN c.op nm' c.so c.ts (.tip (if i = 0 then none else some 5) ((namedCs (c.ss.take i) ns').1.map encC)))] :: m) (fun i => i ≤ c.ss.length) (fun i => i = c.ss.length) (fun i => c.ss.length - i) 0
      (by simp only [go_sem, List.take_zero, namedCs]; try rfl) (by simp only [go_sem, boxN, boxC0, List.take_zero, namedCs, ↓reduceIte]; try rfl) (by omega) (by
      rintro i k1 hE
      obtain ⟨x, hx⟩ : ∃ x, c.ss[i]? = some x := ⟨_, List.getElem?_eq_getElem (by omega)⟩
      have c1 : decide ((i : Int) < (c.ss.length : Int)) = true := dec_t (by omega)
      have c3 : IntKind.i64.wrap ((i : Int) + 1) = ((i + 1 : Nat) : Int) := wrap64 (by omega) (by omega)
      have c4 : (i + 1 = 0) = False := by simp
      have hmem := List.mem_of_getElem? hx
      have hrest := named_rest (c.ss.take i) ns'
      have hsx := sizeC_arg hmem
      have hsub := fun ro m hro => ih _ (by have := Cl.lt hmem; omega) x (hc.arg.2 x hmem) (namedCs (c.ss.take i) ns').2 (by rw [maxLen_eq]; omega) (by omega) ro m hro rfl
      have hql : (namedCs (c.ss.take i) ns').1.length = i := by rw [namedCs_len, List.length_take]; omega
      have htk := namedCs_take hx ns'
      have hos : (if i = 0 then none else some 5 : Option Nat) = none ∨ (if i = 0 then none else some 5 : Option Nat) = some 5 := by split <;> simp
      refine ⟨i + 1, by omega, by omega, ?_⟩
      rw [round_go, htk]
      generalize (if i = 0 then none else some 5 : Option Nat) = os at hos ⊢
      generalize namedCs (c.ss.take i) ns' = q at hsub hql ⊢
      obtain ⟨q1, q2⟩ := q
      dsimp only at hsub hql ⊢
      have c5 : (q1.length + 1) * 88 ≤ 140737488355328 := by omega
      have c6 : q1.length + 1 ≤ 9223372036854775807 := by omega
      generalize namedC x q2 = z at hsub ⊢
      obtain ⟨z1, z2⟩ := z
      simp only [go_sem, ↓reduceIte, boxN, boxC0, c1, c3, c4, c5, c6, hos, hx, hsub, hro, hro1, List.map_append, lt05])
    clear hL
    subst hE
    rw [loopW_go]
    have c1 : decide ((c.ss.length : Int) < (c.ss.length : Int)) = false := dec_f (by omega)
    rw [List.take_length]
    generalize (if c.ss.length = 0 then none else some 5 : Option Nat) = os
    generalize namedCs c.ss ns' = q
    obtain ⟨q1, q2⟩ := q
    simp only [go_sem, ↓reduceIte, boxN, boxC0, c1, hro, hro1]
    rw [encC_mk]
    rfl
  · clear hn hs
    try simp only [List.length_cons] at d0
    simp only [go_sem, ↓reduceIte, d11, d12, d0, hro, hro1, sl1, sl2]
    generalize hL : loopW _ _ = L
    obtain ⟨i, k1, hE, rfl⟩ := loopW_at hL (fun i : Nat => [(1, .c (.sl ((namedCs (c.ss.take i) ns').2.map cS))), (7, .c (.v (.int .i64 i)))])
      (fun i : Nat => [(4, boxC0), (6, boxN c.op nm' c.so c.ts (.tip (if i = 0 then none else some 5) ((namedCs (c.ss.take i) ns').1.map encC)))] :: m) (fun i => i ≤ c.ss.length) (fun i => i = c.ss.length) (fun i => c.ss.length - i) 0
      (by simp only [go_sem, List.take_zero, namedCs]; try rfl) (by simp only [go_sem, boxN, boxC0, List.take_zero, namedCs, ↓reduceIte]; try rfl) (by omega) (by
      rintro i k1 hE
      obtain ⟨x, hx⟩ : ∃ x, c.ss[i]? = some x := ⟨_, List.getElem?_eq_getElem (by omega)⟩
      have c1 : decide ((i : Int) < (c.ss.length : Int)) = true := dec_t (by omega)
      have c3 : IntKind.i64.wrap ((i : Int) + 1) = ((i + 1 : Nat) : Int) := wrap64 (by omega) (by omega)
      have c4 : (i + 1 = 0) = False := by simp
      have hmem := List.mem_of_getElem? hx
      have hrest := named_rest (c.ss.take i) ns'
      have hsx := sizeC_arg hmem
      have hsub := fun ro m hro => ih _ (by have := Cl.lt hmem; omega) x (hc.arg.2 x hmem) (namedCs (c.ss.take i) ns').2 (by rw [maxLen_eq]; omega) (by omega) ro m hro rfl
      have hql : (namedCs (c.ss.take i) ns').1.length = i := by rw [namedCs_len, List.length_take]; omega
      have htk := namedCs_take hx ns'
      have hos : (if i = 0 then none else some 5 : Option Nat) = none ∨ (if i = 0 then none else some 5 : Option Nat) = some 5 := by split <;> simp
      refine ⟨i + 1, by omega, by omega, ?_⟩
      rw [round_go, htk]
      generalize (if i = 0 then none else some 5 : Option Nat) = os at hos ⊢
      generalize namedCs (c.ss.take i) ns' = q at hsub hql ⊢
      obtain ⟨q1, q2⟩ := q
      dsimp only at hsub hql ⊢
      have c5 : (q1.length + 1) * 88 ≤ 140737488355328 := by omega
      have c6 : q1.length + 1 ≤ 9223372036854775807 := by omega
      generalize namedC x q2 = z at hsub ⊢
      obtain ⟨z1, z2⟩ := z
      simp only [go_sem, ↓reduceIte, boxN, boxC0, c1, c3, c4, c5, c6, hos, hx, hsub, hro, hro1, List.map_append, lt05])
    clear hL
    subst hE
    rw [loopW_go]
    have c1 : decide ((c.ss.length : Int) < (c.ss.length : Int)) = false := dec_f (by omega)
    rw [List.take_length]
    generalize (if c.ss.length = 0 then none else some 5 : Option Nat) = os
    generalize namedCs c.ss ns' = q
    obtain ⟨q1, q2⟩ := q
    simp only [go_sem, ↓reduceIte, boxN, boxC0, c1, hro, hro1]
    rw [encC_mk]
    rfl
end Go.Eng
