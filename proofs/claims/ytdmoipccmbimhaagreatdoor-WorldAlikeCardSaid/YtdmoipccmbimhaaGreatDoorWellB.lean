-- own work: an evaluator of the program's code, and what it answers
import Derived.Test.YtdmoipccmbimhaaGreatDoorW4
import Derived.Test.YtdmoipccmbimhaaGreatDoorTermPart2
set_option maxRecDepth 100000
set_option linter.unusedVariables false
set_option linter.unusedSimpArgs false
namespace Go.Eng
open Go Go.Proofs
/-! ### what a term that is right is like -/
theorem firstTs_zero {l : List Tm} (h : firstTs l = 0) : ∀ x ∈ l, firstT x = 0 := by
  induction l with
  | nil => intro x hx; cases hx
  | cons y r ih =>
    intro x hx
    simp only [firstTs] at h
    split at h
    · rename_i h1; exact absurd h h1
    · rename_i h1
      rcases List.mem_cons.1 hx with rfl | hx
      · simpa using h1
      · exact ih h x hx
theorem depTs_le {l : List Tm} {x : Tm} (hx : x ∈ l) : depT x ≤ depTs l := by
  induction l with
  | nil => cases hx
  | cons y r ih =>
    simp only [depTs]
    rcases List.mem_cons.1 hx with rfl | hx
    · omega
    · have := ih hx; omega
theorem needs_le (op : Int) (h : 1 ≤ op) (h8 : op ≤ 8) : needsL.getD op.toNat 0 ≤ 8 := by
  have : op = 1 ∨ op = 2 ∨ op = 3 ∨ op = 4 ∨ op = 5 ∨ op = 6 ∨ op = 7 ∨ op = 8 := by omega
  rcases this with rfl | rfl | rfl | rfl | rfl | rfl | rfl | rfl <;> decide
theorem needs_le2 (op : Int) (h : 1 ≤ op) (h8 : op ≤ 8) (h3 : op ≠ 3) : needsL.getD op.toNat 0 ≤ 2 := by
  have : op = 1 ∨ op = 2 ∨ op = 4 ∨ op = 5 ∨ op = 6 ∨ op = 7 ∨ op = 8 := by omega
  rcases this with rfl | rfl | rfl | rfl | rfl | rfl | rfl <;> decide
theorem partE_zero {op : Int} {nm : ByteArray} {nu : Int} {n : Nat} (h : partE op nm nu n = 0) : n ≤ 8 ∧ (op = 2 → 0 ≤ nu) ∧ (op ≠ 3 → n ≤ 2) := by
  unfold partE at h
  split at h
  · cases h
  · split at h
    · cases h
    · split at h
      · cases h
      · rename_i h1 h2 h3
        have := needs_le op (by omega) (by omega)
        exact ⟨by omega, fun e => by omega, fun e => by have := needs_le2 op (by omega) (by omega) e; omega⟩
theorem fit_of : ∀ (d : Nat) (t : Tm), depT t ≤ d → firstT t = 0 → fitT d t
  | 0, t, hd, _ => by cases t; simp [depT] at hd
  | d + 1, .mk op nm nu l, hd, hf => by
    simp only [firstT] at hf
    split at hf
    · rename_i h1; exact absurd hf h1
    · rename_i h1
      obtain ⟨h2, h3, h4⟩ := partE_zero (by simpa using h1)
      simp only [depT] at hd
      refine .mk d _ h2 h3 h4 fun x hx => fit_of d x ?_ (firstTs_zero hf x hx)
      have := depTs_le (l := l) hx
      omega
theorem fit_right {t : Tm} (h : rightT t = 0) : fitT 64 t := by
  unfold rightT at h
  split at h
  · cases h
  · split at h
    · cases h
    · exact fit_of 64 t (by omega) h
def withinW (s : Sg) (vs : List Va) (bs : List ByteArray) (t : Tm) : Ans := if rightT t ≠ 0 then (noS, [], rightT t) else termW s vs bs [] t
set_option maxHeartbeats 2000000 in
theorem f12_ev (s : Sg) (vs : List Va) (bs : List ByteArray) (t : Tm) (hs : s.funs.length ≤ maxLen) (hv : vs.length ≤ maxLen) (hb : bs.length ≤ 100000) (ht : okT t) (ro : Nat) (m : Mem) (hro : ro ≤ m.length) :
    evL Tryz.prog An ro 85 [.c (encS s), .c (.sl (vs.map encV)), .c (.sl (bs.map cS)), .c (encT t)] m = some (.tup (encN (withinW s vs bs t)), m) := by
  refine evL_by (n := 29) (by kernel_rfl) rfl fn85 rfl rfl rfl rfl ?_
  have hr := fun ro m => right_ev t ht ro m
  have hro1 : ro ≤ m.length + 1 := by omega
  unfold withinW
  by_cases h : rightT t = 0
  · have c : (rightT t != 0) = false := by simp [h]
    have hterm := fun ro m hro => f26_ev s vs bs hs hv hb 64 t [] (fit_right h) (by simp) ro m hro
    rw [if_neg (by simpa using h)]
    simp only [List.map_nil] at hterm
    generalize termW s vs bs [] t = q at hterm ⊢
    obtain ⟨a, b, e⟩ := q
    have hof := fun ro m hro => f25_ev s vs ro m hro
    simp only [go_sem, ↓reduceIte, hr, c, hro, hro1, hof, hterm, encN]
  · have c : (rightT t != 0) = true := by simpa using h
    rw [if_pos (by simpa using h)]
    simp only [go_sem, ↓reduceIte, hr, c, hro, hro1, encN, noS]
set_option maxHeartbeats 2000000 in
theorem f13_ev (s : Sg) (vs : List Va) (t : Tm) (hs : s.funs.length ≤ maxLen) (hv : vs.length ≤ maxLen) (ht : okT t) (ro : Nat) (m : Mem) (hro : ro ≤ m.length) :
    evL Tryz.prog An ro 56 [.c (encS s), .c (.sl (vs.map encV)), .c (encT t)] m = some (.tup (encN (withinW s vs [] t)), m) := by
  refine evL_by (n := 16) (by kernel_rfl) rfl fn56 rfl rfl rfl rfl ?_
  have hw := fun ro m hro => f12_ev s vs [] t hs hv (by simp) ht ro m hro
  have hro1 : ro ≤ m.length + 1 := by omega
  simp only [List.map_nil] at hw
  generalize withinW s vs [] t = q at hw ⊢
  obtain ⟨a, b, e⟩ := q
  simp only [go_sem, ↓reduceIte, hro, hro1, hw, encN]
/-- are two ways the same? -/
def intsB (a b : List Int) : Bool := a == b
set_option maxHeartbeats 2000000 in
theorem f15_ev (a b : List Int) (ha : a.length ≤ maxLen) (hb : b.length ≤ maxLen) (ro : Nat) (m : Mem) : evL Tryz.prog An ro 34 [.c (.sl (a.map cI)), .c (.sl (b.map cI))] m = some (.c (.v (.bool (intsB a b))), m) := by
  rw [maxLen_eq] at ha hb
  refine evL_by (n := 26) (by kernel_rfl) rfl fn34 rfl rfl rfl rfl ?_
  by_cases hlen : a.length ≠ b.length
  · have c1 : decide (a.length ≠ b.length) = true := dec_t hlen
    have : intsB a b = false := by
      unfold intsB
      rw [beq_eq_false_iff_ne]
      intro e; exact hlen (by rw [e])
    simp only [go_sem, ↓reduceIte, len_ne, c1, this]
  · have c1 : decide (a.length ≠ b.length) = false := dec_f hlen
    have hl : a.length = b.length := by simpa using hlen
    simp only [go_sem, ↓reduceIte, len_ne, c1]
    generalize hL : loopW _ _ = L
    obtain ⟨i, ⟨k1, k2⟩, hE, rfl⟩ := loopW_at hL (fun i : Nat => [(5, .c (.v (.int .i64 i)))]) (fun _ => [] :: m) (fun i => i ≤ a.length ∧ a.take i = b.take i) (fun i => i = a.length ∨ ∃ x y, a[i]? = some x ∧ b[i]? = some y ∧ x ≠ y) (fun i => a.length - i) 0 rfl rfl ⟨by omega, by simp⟩ (by
      rintro i ⟨k1, k2⟩ hE
      simp only [not_or, not_exists, not_and, ne_eq, Decidable.not_not] at hE
      obtain ⟨k3, k4⟩ := hE
      obtain ⟨x, hx⟩ : ∃ x, a[i]? = some x := ⟨_, List.getElem?_eq_getElem (by omega)⟩
      obtain ⟨y, hy⟩ : ∃ y, b[i]? = some y := ⟨_, List.getElem?_eq_getElem (by omega)⟩
      have d1 : decide ((i : Int) < (a.length : Int)) = true := dec_t (by omega)
      have d3 : IntKind.i64.wrap ((i : Int) + 1) = ((i + 1 : Nat) : Int) := wrap64 (by omega) (by omega)
      have d2 : (x != y) = false := by simpa using k4 x y hx hy
      refine ⟨i + 1, ⟨by omega, by rw [List.take_add_one, List.take_add_one, k2, hx, hy, k4 x y hx hy]⟩, by omega, ?_⟩
      rw [round_go]
      simp only [go_sem, ↓reduceIte, d1, d2, d3, hx, hy])
    clear hL
    rw [loopW_go]
    by_cases hi : i = a.length
    · have d1 : decide ((i : Int) < (a.length : Int)) = false := dec_f (by omega)
      have : intsB a b = true := by
        unfold intsB
        rw [beq_iff_eq]
        rw [hi, List.take_length, List.take_of_length_le (by omega)] at k2
        exact k2
      simp only [go_sem, ↓reduceIte, d1, this]
    · obtain ⟨x, y, hx, hy, hne⟩ := hE.resolve_left hi
      have hil := (List.getElem?_eq_some_iff.1 hx).1
      have d1 : decide ((i : Int) < (a.length : Int)) = true := dec_t (by omega)
      have d2 : (x != y) = true := by simpa using hne
      have : intsB a b = false := by
        unfold intsB
        rw [beq_eq_false_iff_ne]
        intro e
        rw [e] at hx
        exact hne (Option.some.inj (hx.symm.trans hy))
      simp only [go_sem, ↓reduceIte, d1, d2, hx, hy, this]
end Go.Eng
set_option maxRecDepth 100000
set_option linter.unusedVariables false
set_option linter.unusedSimpArgs false
namespace Go.Eng
open Go Go.Proofs
set_option maxHeartbeats 2000000 in
theorem f95_ev (x nm : ByteArray) (ro : Nat) (m : Mem) : evL Tryz.prog An ro 145 [.c (.v (.string x)), .c (.fp [.v (.string nm)])] m = some (.c (.v (.bool (beqS x nm))), m) := by
  refine evL_by (n := 7) (by kernel_rfl) rfl fn145 rfl rfl rfl rfl ?_
  simp only [go_sem, ↓reduceIte]
set_option maxHeartbeats 2000000 in
theorem f96_ev (l : List ByteArray) (nm : ByteArray) (hl : l.length ≤ maxLen) (ro : Nat) (m : Mem) :
    evL Tryz.prog An ro 146 [.c (.sl (l.map cS)), .c (.fn (.func 145) [.fp [.v (.string nm)]])] m = some (.c (.v (.int .i64 (if idx (isS nm) l < l.length then (idx (isS nm) l : Int) else -1))), m) := by
  rw [maxLen_eq] at hl
  refine evL_by (n := 19) (by kernel_rfl) rfl fn146 rfl rfl rfl rfl ?_
  simp only [go_sem, ↓reduceIte]
  generalize hL : loopW _ _ = L
  have hle := idx_le (isS nm) l
  obtain ⟨i, h1, hE, rfl⟩ := loopW_at hL (fun i : Nat => [(8, .c (.v (.int .i64 i)))]) (fun _ => [] :: m) (fun i => i ≤ idx (isS nm) l) (fun i => i = idx (isS nm) l) (fun i => l.length - i) 0 rfl rfl (by omega) (by
    rintro i h1 hE
    obtain ⟨x, hx⟩ : ∃ x, l[i]? = some x := ⟨_, List.getElem?_eq_getElem (by omega)⟩
    have c1 : decide ((i : Int) < (l.length : Int)) = true := dec_t (by omega)
    have c3 : IntKind.i64.wrap ((i : Int) + 1) = ((i + 1 : Nat) : Int) := wrap64 (by omega) (by omega)
    have c2 := idx_not (isS nm) l i x (by omega) hx
    unfold isS at c2
    refine ⟨i + 1, by omega, by omega, ?_⟩
    rw [round_go]
    simp only [go_sem, ↓reduceIte, c1, c2, c3, hx, f95_ev])
  clear hL
  subst hE
  rw [loopW_go]
  by_cases hi : idx (isS nm) l < l.length
  · obtain ⟨x, hx⟩ : ∃ x, l[idx (isS nm) l]? = some x := ⟨_, List.getElem?_eq_getElem hi⟩
    have c1 : decide ((idx (isS nm) l : Int) < (l.length : Int)) = true := dec_t (by omega)
    have c2 := idx_is (isS nm) l x hx
    unfold isS at c2
    simp only [go_sem, ↓reduceIte, c1, c2, hx, f95_ev, if_pos hi]
  · have c1 : decide ((idx (isS nm) l : Int) < (l.length : Int)) = false := dec_f (by omega)
    simp only [go_sem, ↓reduceIte, c1, if_neg hi]
def allS (l : List ByteArray) : List ByteArray := sBool :: sInt :: l
set_option maxHeartbeats 2000000 in
theorem f97_ev (l : List ByteArray) (hl : l.length ≤ 2000000) (ro : Nat) (m : Mem) : evL Tryz.prog An ro 147 [.c (.sl (l.map cS))] m = some (.tip (some 1) ((allS l).map cS), m) := by
  refine evL_by (n := 6) (by kernel_rfl) rfl fn147 rfl rfl rfl rfl ?_
  have h1 : (2 + l.length) * 16 ≤ 140737488355328 := by omega
  have h2 : 2 + l.length ≤ 9223372036854775807 := by omega
  simp only [go_sem, ↓reduceIte, h1, h2]
  rfl
def knownS (l : List ByteArray) (nm : ByteArray) : Bool := decide (idx (isS nm) (allS l) < (allS l).length)
set_option maxHeartbeats 2000000 in
theorem f90_ev (l : List ByteArray) (nm : ByteArray) (hl : l.length ≤ 2000000) (ro : Nat) (m : Mem) :
    evL Tryz.prog An ro 107 [.c (.sl (l.map cS)), .c (.v (.string nm))] m = some (.c (.v (.int .i64 (if idx (isS nm) (allS l) < (allS l).length then (idx (isS nm) (allS l) : Int) else -1))), m) := by
  refine evL_by (n := 11) (by kernel_rfl) rfl fn107 rfl rfl rfl rfl ?_
  have h := fun ro m => f96_ev (allS l) nm (by rw [maxLen_eq]; simp [allS]; omega) ro m
  simp only [go_sem, ↓reduceIte, f97_ev _ hl, h]
set_option maxHeartbeats 2000000 in
theorem f74_ev (l : List ByteArray) (nm : ByteArray) (hl : l.length ≤ 2000000) (ro : Nat) (m : Mem) : evL Tryz.prog An ro 66 [.c (.sl (l.map cS)), .c (.v (.string nm))] m = some (.c (.v (.bool (knownS l nm))), m) := by
  refine evL_by (n := 9) (by kernel_rfl) rfl fn66 rfl rfl rfl rfl ?_
  unfold knownS
  by_cases hi : idx (isS nm) (allS l) < (allS l).length
  · have c : decide ((idx (isS nm) (allS l) : Int) ≥ 0) = true := dec_t (by omega)
    simp only [go_sem, ↓reduceIte, f90_ev _ _ hl, if_pos hi, c, hi]
  · simp only [go_sem, ↓reduceIte, f90_ev _ _ hl, if_neg hi, hi]
    rfl
def thingS (s : Sg) (nm : ByteArray) : Bool := !beqS nm sBool && knownS s.sorts nm
set_option maxHeartbeats 2000000 in
theorem f38_ev (s : Sg) (nm : ByteArray) (hl : s.sorts.length ≤ 2000000) (ro : Nat) (m : Mem) : evL Tryz.prog An ro 122 [.c (encS s), .c (.v (.string nm))] m = some (.c (.v (.bool (thingS s nm))), m) := by
  refine evL_by (n := 13) (by kernel_rfl) rfl fn122 rfl rfl rfl rfl ?_
  unfold thingS
  cases hb : beqS nm sBool with
  | true => simp only [go_sem, ↓reduceIte, hb]
  | false => simp only [go_sem, ↓reduceIte, hb, f74_ev _ _ hl]
set_option maxHeartbeats 2000000 in
theorem f86_ev (c : Cl) (ro : Nat) (m : Mem) : evL Tryz.prog An ro 158 [.c (encC c)] m = some (.c (.v (.bool (bindB c.op))), m) := by
  refine evL_by (n := 11) (by kernel_rfl) rfl fn158 rfl rfl rfl rfl ?_
  unfold bindB
  cases hb : (c.op == 11) with
  | true => simp only [go_sem, ↓reduceIte, hb]
  | false => simp only [go_sem, ↓reduceIte, hb]
set_option maxHeartbeats 2000000 in
theorem f87_ev (op : Int) (ro : Nat) (m : Mem) : evL Tryz.prog An ro 159 [.c (.v (.int .i64 op))] m = some (.tup [.c (.v (.int .i64 (arityT op))), .c (.v (.int .i64 (arityS op)))], m) := by
  refine evL_by (n := 19) (by kernel_rfl) rfl fn159 rfl rfl rfl rfl ?_
  have hop : op = 3 ∨ op = 4 ∨ op = 5 ∨ op = 6 ∨ op = 7 ∨ op = 8 ∨ op = 9 ∨ op = 10 ∨ op = 11 ∨ op = 12 ∨ (op ≠ 3 ∧ op ≠ 4 ∧ op ≠ 5 ∧ op ≠ 6 ∧ op ≠ 7 ∧ op ≠ 8 ∧ op ≠ 9 ∧ op ≠ 10 ∧ op ≠ 11 ∧ op ≠ 12) := by omega
  rcases hop with rfl | rfl | rfl | rfl | rfl | rfl | rfl | rfl | rfl | rfl | ⟨h3, h4, h5, h6, h7, h8, h9, h10, h11, h12⟩
  case inr.inr.inr.inr.inr.inr.inr.inr.inr.inr =>
    have d3 : (op == 3) = false := by simp [h3]
    have d4 : (op == 4) = false := by simp [h4]
    have d5 : (op == 5) = false := by simp [h5]
    have d6 : (op == 6) = false := by simp [h6]
    have d7 : (op == 7) = false := by simp [h7]
    have d8 : (op == 8) = false := by simp [h8]
    have d9 : (op == 9) = false := by simp [h9]
    have d10 : (op == 10) = false := by simp [h10]
    have d11 : (op == 11) = false := by simp [h11]
    have d12 : (op == 12) = false := by simp [h12]
    have e1 : arityT op = 0 := by unfold arityT; rw [if_neg h3, if_neg (by omega)]
    have e2 : arityS op = 0 := by unfold arityS; rw [if_neg (by omega), if_neg (by omega)]
    simp only [go_sem, ↓reduceIte, d3, d4, d5, d6, d7, d8, d9, d10, d11, d12, e1, e2]
  all_goals
    simp only [go_sem, ↓reduceIte, Int.reduceBEq]
    rfl
end Go.Eng
set_option maxRecDepth 100000
set_option linter.unusedVariables false
set_option linter.unusedSimpArgs false
namespace Go.Eng
open Go Go.Proofs
set_option maxHeartbeats 4000000 in
theorem f84_ev (c : Cl) (hc : okC c) (k : Nat) (hk : 1 ≤ k) (hk2 : k ≤ 1000) (ro : Nat) (m : Mem) (hro : ro ≤ m.length) :
    evL Tryz.prog An ro 155 [.c (encC c), .c (.v (.int .i64 k))] m = some (.c (.v (.int .i64 (min (depC c) k : Nat))), m) := by
  induction hd : SizeOf.sizeOf c using Nat.strongRecOn generalizing c k ro m with
  | _ d ih =>
  have hlen := hc.len.2
  have hz := depC_eq c
  have hro1 : ro ≤ m.length + 1 := by omega
  rw [maxLen_eq] at hlen
  refine evL_by (n := 26) (by kernel_rfl) rfl fn155 rfl rfl rfl rfl ?_
  by_cases h1 : k = 1
  · subst h1
    have d1 : decide (((1 : Nat) : Int) ≤ 1) = true := dec_t (by omega)
    have : min (depC c) 1 = 1 := by omega
    simp only [go_sem, ↓reduceIte, d1, this]
    rfl
  · have d1 : decide ((k : Int) ≤ 1) = false := dec_f (by omega)
    simp only [go_sem, ↓reduceIte, d1]
    generalize hL : loopW _ _ = L
    obtain ⟨i, k1, hE, rfl⟩ := loopW_at hL (fun i : Nat => [(5, .c (.v (.int .i64 (min (depCs (c.ss.take i) + 1) k : Nat)))), (13, .c (.v (.int .i64 i)))]) (fun _ => [] :: m) (fun i => i ≤ c.ss.length) (fun i => i = c.ss.length) (fun i => c.ss.length - i) 0
      (by simp [sets, depCs]; omega) rfl (by omega) (by
      rintro i k1 hE
      obtain ⟨x, hx⟩ : ∃ x, c.ss[i]? = some x := ⟨_, List.getElem?_eq_getElem (by omega)⟩
      have c1 : decide ((i : Int) < (c.ss.length : Int)) = true := dec_t (by omega)
      have c3 : IntKind.i64.wrap ((i : Int) + 1) = ((i + 1 : Nat) : Int) := wrap64 (by omega) (by omega)
      have c4 : IntKind.i64.wrap ((k : Int) - 1) = ((k - 1 : Nat) : Int) := (wrap64 (by omega) (by omega)).trans (by omega)
      have hmem := List.mem_of_getElem? hx
      have hsub := fun ro m hro => ih _ (by have := Cl.lt hmem; omega) x (hc.arg.2 x hmem) (k - 1) (by omega) (by omega) ro m hro rfl
      have ht := depCs_take _ _ _ hx
      have c5 : IntKind.i64.wrap (1 + ((min (depC x) (k - 1) : Nat) : Int)) = ((1 + min (depC x) (k - 1) : Nat) : Int) := (wrap64 (by omega) (by omega)).trans (by omega)
      have c6 : (if ((1 + min (depC x) (k - 1) : Nat) : Int) > ((min (depCs (c.ss.take i) + 1) k : Nat) : Int) then ((1 + min (depC x) (k - 1) : Nat) : Int) else ((min (depCs (c.ss.take i) + 1) k : Nat) : Int)) = ((min (depCs (c.ss.take (i + 1)) + 1) k : Nat) : Int) := by
        split <;> omega
      refine ⟨i + 1, by omega, by omega, ?_⟩
      rw [round_go]
      simp only [go_sem, ↓reduceIte, c1, c3, c4, c5, c6, hx, hsub, hro, hro1])
    clear hL
    subst hE
    rw [loopW_go]
    have c1 : decide ((c.ss.length : Int) < (c.ss.length : Int)) = false := dec_f (by omega)
    simp only [go_sem, ↓reduceIte, c1]
    rw [List.take_length, ← hz]
set_option maxHeartbeats 2000000 in
theorem f64_ev (c : Cl) (hc : okC c) (ro : Nat) (m : Mem) (hro : ro ≤ m.length) : evL Tryz.prog An ro 115 [.c (encC c)] m = some (.c (.v (.int .i64 (min (depC c) 65 : Nat))), m) := by
  refine evL_by (n := 5) (by kernel_rfl) rfl fn115 rfl rfl rfl rfl ?_
  have hro1 : ro ≤ m.length + 1 := by omega
  have h := fun ro m hro => f84_ev c hc 65 (by omega) (by omega) ro m hro
  have e : ((65 : Nat) : Int) = 65 := rfl
  simp only [e] at h
  simp only [go_sem, ↓reduceIte, h, hro1]
end Go.Eng
set_option maxRecDepth 100000
set_option linter.unusedVariables false
set_option linter.unusedSimpArgs false
namespace Go.Eng
open Go Go.Proofs
/-! ### boxes of frames below -/
theorem put_len : ∀ (m : Mem) (D t : Nat) (b : Box), (put m D t b).length = m.length
  | [], _, _, _ => rfl
  | f :: r, D, t, b => by simp only [put]; split <;> simp [put_len r D t b]
theorem look_low {fr : Fr} {m : Mem} {D t : Nat} (h : D < m.length) : look (fr :: m) D t = look m D t := by
  simp only [look]; rw [if_neg (by omega)]
theorem put_low {fr : Fr} {m : Mem} {D t : Nat} {b : Box} (h : D < m.length) : put (fr :: m) D t b = fr :: put m D t b := by
  simp only [put]; rw [if_neg (by omega)]
theorem lkq_upd (fr : Fr) (t : Nat) (b : Box) : lk (upd fr t b) t = some b := by
  induction fr with
  | nil => simp [upd, lk]
  | cons x r ih =>
    obtain ⟨k, y⟩ := x
    simp only [upd]
    split
    · rename_i h; simp [lk, h]
    · rename_i h; simp [lk, h, ih]
theorem lk_upd_ne (fr : Fr) {t t' : Nat} (b : Box) (hne : t' ≠ t) : lk (upd fr t b) t' = lk fr t' := by
  induction fr with
  | nil => simp [upd, lk, hne]
  | cons x r ih =>
    obtain ⟨k, y⟩ := x
    simp only [upd]
    split
    · rename_i h
      simp only [lk]
      subst h
      rw [if_neg hne, if_neg hne]
    · rename_i h
      simp only [lk]
      rw [ih]
theorem upd_upd (fr : Fr) (t : Nat) (b b' : Box) : upd (upd fr t b) t b' = upd fr t b' := by
  induction fr with
  | nil => simp [upd]
  | cons x r ih =>
    obtain ⟨k, y⟩ := x
    simp only [upd]
    by_cases h : t = k
    · simp [h, upd]
    · simp [h, upd, ih]
theorem lookq_put : ∀ (m : Mem) (D t : Nat) (b : Box), D < m.length → look (put m D t b) D t = some b
  | [], _, _, _, h => by simp at h
  | f :: r, D, t, b, h => by
    simp only [put]
    by_cases e : D = r.length
    · rw [if_pos e]; simp only [look]; rw [if_pos e, lkq_upd]
    · rw [if_neg e]; simp only [look]; rw [put_len, if_neg e, lookq_put r D t b (by simp at h; omega)]
theorem look_put_ne : ∀ (m : Mem) (D t t' : Nat) (b : Box), t' ≠ t → look (put m D t b) D t' = look m D t'
  | [], _, _, _, _, _ => rfl
  | f :: r, D, t, t', b, h => by
    simp only [put]
    by_cases e : D = r.length
    · rw [if_pos e]; simp only [look]; rw [if_pos e, if_pos e, lk_upd_ne _ _ h]
    · rw [if_neg e]; simp only [look]; rw [put_len, if_neg e, if_neg e, look_put_ne r D t t' b h]
theorem put_put : ∀ (m : Mem) (D t : Nat) (b b' : Box), put (put m D t b) D t b' = put m D t b'
  | [], _, _, _, _ => rfl
  | f :: r, D, t, b, b' => by
    simp only [put]
    by_cases e : D = r.length
    · rw [if_pos e, if_pos e]; simp only [put]; rw [if_pos e, upd_upd]
    · rw [if_neg e, if_neg e]; simp only [put]; rw [put_len, if_neg e, put_put r D t b b']
/-! ### how many parts a claim has -/
def cntTs : Nat → List Tm → Nat
  | n, [] => n
  | n, t :: r => cntTs (if n ≤ 4096 then n + min (sizeT t) 4097 else n) r
mutual
def cntC : Nat → Cl → Nat
  | n, .mk _ _ _ ts ss => cntCs (cntTs (n + 1) ts) ss
def cntCs : Nat → List Cl → Nat
  | n, [] => n
  | n, s :: r => cntCs (if n ≤ 4096 then cntC n s else n) r
end
theorem cntC_eq (n : Nat) (c : Cl) : cntC n c = cntCs (cntTs (n + 1) c.ts) c.ss := by cases c; rw [cntC]; rfl
theorem cntTs_le : ∀ (l : List Tm) (n : Nat), n ≤ 8193 → cntTs n l ≤ 8193
  | [], n, h => h
  | t :: r, n, h => by
    rw [cntTs]
    refine cntTs_le r _ ?_
    split <;> omega
theorem cntC_le : ∀ (d : Nat) (c : Cl) (n : Nat), SizeOf.sizeOf c ≤ d → n ≤ 4096 → cntC n c ≤ 8193
  | 0, c, n, h, _ => by cases c; simp at h
  | d + 1, .mk op nm so ts ss, n, h, hn => by
    have key : ∀ (l : List Cl) (n : Nat), (∀ x ∈ l, SizeOf.sizeOf x ≤ d) → n ≤ 8193 → cntCs n l ≤ 8193 := by
      intro l
      induction l with
      | nil => intro n _ h; exact h
      | cons x r ih =>
        intro n hx h
        rw [cntCs]
        refine ih _ (fun y hy => hx y (by simp [hy])) ?_
        split
        · exact cntC_le d x n (hx x (by simp)) (by omega)
        · exact h
    rw [cntC]
    exact key ss _ (fun x hx => by have := List.sizeOf_lt_of_mem hx; simp at h; omega) (cntTs_le _ _ (by omega))
theorem cntTs_min : ∀ (l : List Tm) (n : Nat), min (cntTs n l) 4097 = min (n + sizeTs l) 4097
  | [], n => by simp [cntTs, sizeTs]
  | t :: r, n => by
    rw [cntTs, cntTs_min r, sizeTs]
    split <;> omega
theorem cntC_min : ∀ (d : Nat) (c : Cl) (n : Nat), SizeOf.sizeOf c ≤ d → min (cntC n c) 4097 = min (n + sizeC c) 4097
  | 0, c, n, h => by cases c; simp at h
  | d + 1, .mk op nm so ts ss, n, h => by
    have key : ∀ (l : List Cl) (n : Nat), (∀ x ∈ l, SizeOf.sizeOf x ≤ d) → min (cntCs n l) 4097 = min (n + sizeCs l) 4097 := by
      intro l
      induction l with
      | nil => intro n _; simp [cntCs, sizeCs]
      | cons x r ih =>
        intro n hx
        rw [cntCs, ih _ (fun y hy => hx y (by simp [hy])), sizeCs]
        have := cntC_min d x n (hx x (by simp))
        split <;> omega
    rw [cntC, sizeC]
    have h1 := key ss (cntTs (n + 1) ts) (fun x hx => by have := List.sizeOf_lt_of_mem hx; simp at h; omega)
    have h2 := cntTs_min ts (n + 1)
    omega
abbrev bInt (n : Nat) : Box := [.c (.v (.int .i64 n))]
theorem cntTs_take (l : List Tm) (n i : Nat) (x : Tm) (h : l[i]? = some x) : cntTs n (l.take (i + 1)) = (if cntTs n (l.take i) ≤ 4096 then cntTs n (l.take i) + min (sizeT x) 4097 else cntTs n (l.take i)) := by
  have app : ∀ (l l2 : List Tm) (n : Nat), cntTs n (l ++ l2) = cntTs (cntTs n l) l2 := by
    intro l l2
    induction l with
    | nil => intro n; rfl
    | cons y r ih => intro n; rw [List.cons_append, cntTs, cntTs, ih]
  rw [List.take_add_one, h, app]; simp [cntTs]
theorem cntCs_take (l : List Cl) (n i : Nat) (x : Cl) (h : l[i]? = some x) : cntCs n (l.take (i + 1)) = (if cntCs n (l.take i) ≤ 4096 then cntC (cntCs n (l.take i)) x else cntCs n (l.take i)) := by
  have app : ∀ (l l2 : List Cl) (n : Nat), cntCs n (l ++ l2) = cntCs (cntCs n l) l2 := by
    intro l l2
    induction l with
    | nil => intro n; rfl
    | cons y r ih => intro n; rw [List.cons_append, cntCs, cntCs, ih]
  rw [List.take_add_one, h, app]; simp [cntCs]
theorem cntCs_le (l : List Cl) (n : Nat) (h : n ≤ 8193) : cntCs n l ≤ 8193 := by
  induction l generalizing n with
  | nil => exact h
  | cons x r ih =>
    rw [cntCs]
    refine ih _ ?_
    split
    · exact cntC_le _ x n (Nat.le_refl _) (by omega)
    · exact h
set_option maxHeartbeats 8000000 in
theorem f85_ev (c : Cl) (hc : okC c) (n : Nat) (hn : n ≤ 4096) (D : Nat) (m : Mem) (ro : Nat) (hro : ro ≤ D) (hD : D < m.length)
    (h3 : look m D 3 = some (bInt n)) (h4 : look m D 4 = some [.fn (.func 156) [.p D 3 0, .p D 4 0]]) :
    evL Tryz.prog An ro 156 [.c (encC c), .p D 3 0, .p D 4 0] m = some (.tup [], put m D 3 (bInt (cntC n c))) := by
  induction hd : SizeOf.sizeOf c using Nat.strongRecOn generalizing c n m ro with
  | _ d ih =>
  have hts := hc.len.1
  have hss := hc.len.2
  rw [maxLen_eq] at hts hss
  have hroD : ro ≤ m.length := by omega
  have e1 : (D = m.length) = False := by simp; omega
  have e2 : ∀ b, (put m D 3 b).length = m.length := put_len m D 3
  have l1 : ∀ fr, look (fr :: m) D 3 = some [.c (.v (.int .i64 n))] := fun fr => (look_low hD).trans h3
  have l2 : ∀ fr b, look (fr :: put m D 3 b) D 3 = some b := fun fr b => (look_low (by rw [e2]; exact hD)).trans (lookq_put m D 3 b hD)
  have l3 : ∀ fr b, look (fr :: put m D 3 b) D 4 = some [.fn (.func 156) [.p D 3 0, .p D 4 0]] := fun fr b => (look_low (by rw [e2]; exact hD)).trans ((look_put_ne m D 3 4 b (by omega)).trans h4)
  have p1 : ∀ fr b, put (fr :: m) D 3 b = fr :: put m D 3 b := fun fr b => put_low hD
  have p2 : ∀ fr b b', put (fr :: put m D 3 b) D 3 b' = fr :: put m D 3 b' := fun fr b b' => (put_low (by rw [e2]; exact hD)).trans (by rw [put_put])
  have lt : ∀ fr b t, look (fr :: put m D 3 b) m.length t = lk fr t := fun fr b t => by have := look_top (fr := fr) (r := put m D 3 b) (t := t); rwa [e2] at this
  have pt : ∀ fr b t b', put (fr :: put m D 3 b) m.length t b' = upd fr t b' :: put m D 3 b := fun fr b t b' => by have := put_top (fr := fr) (r := put m D 3 b) (t := t) (b := b'); rwa [e2] at this
  have hlt : decide (D < m.length + 1) = true := dec_t (by omega)
  have hlt2 : decide (D < m.length + 1 + 1) = true := dec_t (by omega)
  refine evL_by (n := 37) (by kernel_rfl) rfl fn156 rfl rfl rfl rfl ?_
  have w0 : IntKind.i64.wrap ((n : Int) + 1) = ((n + 1 : Nat) : Int) := wrap64 (by omega) (by omega)
  simp only [go_sem, ↓reduceIte, l1, p1, w0, hro]
  generalize hL : loopW _ _ = L
  obtain ⟨i, k1, hE, rfl⟩ := loopW_at hL (fun i : Nat => [(13, .c (.v (.int .i64 i)))]) (fun i => [] :: put m D 3 [.c (.v (.int .i64 (cntTs (n + 1) (c.ts.take i) : Nat)))]) (fun i => i ≤ c.ts.length) (fun i => i = c.ts.length) (fun i => c.ts.length - i) 0 rfl rfl (by omega) (by
    rintro i k1 hE
    obtain ⟨x, hx⟩ : ∃ x, c.ts[i]? = some x := ⟨_, List.getElem?_eq_getElem (by omega)⟩
    have c1 : decide ((i : Int) < (c.ts.length : Int)) = true := dec_t (by omega)
    have c3 : IntKind.i64.wrap ((i : Int) + 1) = ((i + 1 : Nat) : Int) := wrap64 (by omega) (by omega)
    have hk := cntTs_take c.ts (n + 1) i x hx
    have hle := cntTs_le (c.ts.take i) (n + 1) (by omega)
    have hsz := fun ro m => tsize_ev x (hc.arg.1 x (List.mem_of_getElem? hx)) ro m
    refine ⟨i + 1, by omega, by omega, ?_⟩
    rw [round_go, hk]
    generalize cntTs (n + 1) (c.ts.take i) = q at hle
    by_cases hq : q ≤ 4096
    · have c2 : decide ((q : Int) ≤ 4096) = true := dec_t (by omega)
      have c4 : IntKind.i64.wrap ((q : Int) + ((min (sizeT x) 4097 : Nat) : Int)) = ((q + min (sizeT x) 4097 : Nat) : Int) := wrap64 (by omega) (by omega)
      simp only [go_sem, ↓reduceIte, c1, c2, c3, c4, hx, hsz, l2, l3, p2, lt, pt, e1, e2, hro, hroD, hlt, if_pos hq]
    · have c2 : decide ((q : Int) ≤ 4096) = false := dec_f (by omega)
      simp only [go_sem, ↓reduceIte, c1, c2, c3, hx, l2, l3, p2, lt, pt, e1, e2, hro, hroD, hlt, if_neg hq])
  clear hL
  subst hE
  rw [loopW_go]
  have c1 : decide ((c.ts.length : Int) < (c.ts.length : Int)) = false := dec_f (by omega)
  rw [List.take_length]
  have hq0 := cntTs_le c.ts (n + 1) (by omega)
  have hcq := cntC_eq n c
  generalize cntTs (n + 1) c.ts = q0 at hq0 hcq ⊢
  simp only [go_sem, ↓reduceIte, c1, l2, p2, hro]
  generalize hL : loopW _ _ = L
  obtain ⟨i, k1, hE, rfl⟩ := loopW_at hL (fun i : Nat => [(27, .c (.v (.int .i64 i)))]) (fun i => [] :: put m D 3 [.c (.v (.int .i64 (cntCs q0 (c.ss.take i) : Nat)))]) (fun i => i ≤ c.ss.length) (fun i => i = c.ss.length) (fun i => c.ss.length - i) 0 rfl rfl (by omega) (by
    rintro i k1 hE
    obtain ⟨x, hx⟩ : ∃ x, c.ss[i]? = some x := ⟨_, List.getElem?_eq_getElem (by omega)⟩
    have c1 : decide ((i : Int) < (c.ss.length : Int)) = true := dec_t (by omega)
    have c3 : IntKind.i64.wrap ((i : Int) + 1) = ((i + 1 : Nat) : Int) := wrap64 (by omega) (by omega)
    have hk := cntCs_take c.ss q0 i x hx
    have hle := cntCs_le (c.ss.take i) q0 hq0
    have hmem := List.mem_of_getElem? hx
    refine ⟨i + 1, by omega, by omega, ?_⟩
    rw [round_go, hk]
    generalize cntCs q0 (c.ss.take i) = q at hle
    by_cases hq : q ≤ 4096
    · have c2 : decide ((q : Int) ≤ 4096) = true := dec_t (by omega)
      have hrec := fun (fr : Fr) (ro : Nat) (hro : ro ≤ D) => ih _ (by have := Cl.lt hmem; omega) x (hc.arg.2 x hmem) q hq (fr :: put m D 3 (bInt q)) ro hro (by simp [e2]; omega) (l2 fr _) (l3 fr _) rfl
      simp only [p2] at hrec
      simp only [go_sem, ↓reduceIte, c1, c2, c3, hx, hrec, l2, l3, p2, lt, pt, e1, e2, hro, hroD, hlt, if_pos hq]
    · have c2 : decide ((q : Int) ≤ 4096) = false := dec_f (by omega)
      simp only [go_sem, ↓reduceIte, c1, c2, c3, hx, l2, l3, p2, lt, pt, e1, e2, hro, hroD, hlt, if_neg hq])
  clear hL
  subst hE
  rw [loopW_go]
  have c1 : decide ((c.ss.length : Int) < (c.ss.length : Int)) = false := dec_f (by omega)
  rw [List.take_length, ← hcq]
  simp only [go_sem, ↓reduceIte, c1]
end Go.Eng
