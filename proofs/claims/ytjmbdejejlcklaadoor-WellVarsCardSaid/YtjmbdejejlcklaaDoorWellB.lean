-- own work: an evaluator of the program's code, and what it answers
import Derived.Test.YtjmbdejejlcklaaDoorW4
set_option maxRecDepth 100000
set_option linter.unusedVariables false
set_option linter.unusedSimpArgs false
namespace Go.Eng
open Go Go.Proofs
/-! ### what a term that is right is like -/
theorem firstTs_zero {l : List Tm} (h : firstTs l = 0) : ∀ x ∈ l, firstT x = 0 := by
  induction l with
  | nil => intro x hx; cases hx
  | cons y r ih =>
    intro x hx
    simp only [firstTs] at h
    split at h
    · rename_i h1; exact absurd h h1
    · rename_i h1
      rcases List.mem_cons.1 hx with rfl | hx
      · simpa using h1
      · exact ih h x hx
theorem depTs_le {l : List Tm} {x : Tm} (hx : x ∈ l) : depT x ≤ depTs l := by
  induction l with
  | nil => cases hx
  | cons y r ih =>
    simp only [depTs]
    rcases List.mem_cons.1 hx with rfl | hx
    · omega
    · have := ih hx; omega
theorem needs_le (op : Int) (h : 1 ≤ op) (h8 : op ≤ 8) : needsL.getD op.toNat 0 ≤ 8 := by
  have : op = 1 ∨ op = 2 ∨ op = 3 ∨ op = 4 ∨ op = 5 ∨ op = 6 ∨ op = 7 ∨ op = 8 := by omega
  rcases this with rfl | rfl | rfl | rfl | rfl | rfl | rfl | rfl <;> decide
theorem needs_le2 (op : Int) (h : 1 ≤ op) (h8 : op ≤ 8) (h3 : op ≠ 3) : needsL.getD op.toNat 0 ≤ 2 := by
  have : op = 1 ∨ op = 2 ∨ op = 4 ∨ op = 5 ∨ op = 6 ∨ op = 7 ∨ op = 8 := by omega
  rcases this with rfl | rfl | rfl | rfl | rfl | rfl | rfl <;> decide
theorem partE_zero {op : Int} {nm : ByteArray} {nu : Int} {n : Nat} (h : partE op nm nu n = 0) : n ≤ 8 ∧ (op = 2 → 0 ≤ nu) ∧ (op ≠ 3 → n ≤ 2) := by
  unfold partE at h
  split at h
  · cases h
  · split at h
    · cases h
    · split at h
      · cases h
      · rename_i h1 h2 h3
        have := needs_le op (by omega) (by omega)
        exact ⟨by omega, fun e => by omega, fun e => by have := needs_le2 op (by omega) (by omega) e; omega⟩
theorem fit_of : ∀ (d : Nat) (t : Tm), depT t ≤ d → firstT t = 0 → fitT d t
  | 0, t, hd, _ => by cases t; simp [depT] at hd
  | d + 1, .mk op nm nu l, hd, hf => by
    simp only [firstT] at hf
    split at hf
    · rename_i h1; exact absurd hf h1
    · rename_i h1
      obtain ⟨h2, h3, h4⟩ := partE_zero (by simpa using h1)
      simp only [depT] at hd
      refine .mk d _ h2 h3 h4 fun x hx => fit_of d x ?_ (firstTs_zero hf x hx)
      have := depTs_le (l := l) hx
      omega
theorem fit_right {t : Tm} (h : rightT t = 0) : fitT 64 t := by
  unfold rightT at h
  split at h
  · cases h
  · split at h
    · cases h
    · exact fit_of 64 t (by omega) h
def withinW (s : Sg) (vs : List Va) (bs : List ByteArray) (t : Tm) : Ans := if rightT t ≠ 0 then (noS, [], rightT t) else termW s vs bs [] t
set_option maxHeartbeats 2000000 in
theorem f12_ev (s : Sg) (vs : List Va) (bs : List ByteArray) (t : Tm) (hs : s.funs.length ≤ maxLen) (hv : vs.length ≤ maxLen) (hb : bs.length ≤ 100000) (ht : okT t) (ro : Nat) (m : Mem) (hro : ro ≤ m.length) :
    evL Tryd.prog An ro 12 [.c (encS s), .c (.sl (vs.map encV)), .c (.sl (bs.map cS)), .c (encT t)] m = some (.tup (encN (withinW s vs bs t)), m) := by
  refine evL_by (n := 29) (by kernel_rfl) rfl fn12 rfl rfl rfl rfl ?_
  have hr := fun ro m => right_ev t ht ro m
  have hro1 : ro ≤ m.length + 1 := by omega
  unfold withinW
  by_cases h : rightT t = 0
  · have c : (rightT t != 0) = false := by simp [h]
    have hterm := fun ro m hro => f26_ev s vs bs hs hv hb 64 t [] (fit_right h) (by simp) ro m hro
    rw [if_neg (by simpa using h)]
    simp only [List.map_nil] at hterm
    generalize termW s vs bs [] t = q at hterm ⊢
    obtain ⟨a, b, e⟩ := q
    have hof := fun ro m hro => f25_ev s vs ro m hro
    simp only [go_sem, ↓reduceIte, hr, c, hro, hro1, hof, hterm, encN]
  · have c : (rightT t != 0) = true := by simpa using h
    rw [if_pos (by simpa using h)]
    simp only [go_sem, ↓reduceIte, hr, c, hro, hro1, encN, noS]
set_option maxHeartbeats 2000000 in
theorem f13_ev (s : Sg) (vs : List Va) (t : Tm) (hs : s.funs.length ≤ maxLen) (hv : vs.length ≤ maxLen) (ht : okT t) (ro : Nat) (m : Mem) (hro : ro ≤ m.length) :
    evL Tryd.prog An ro 13 [.c (encS s), .c (.sl (vs.map encV)), .c (encT t)] m = some (.tup (encN (withinW s vs [] t)), m) := by
  refine evL_by (n := 16) (by kernel_rfl) rfl fn13 rfl rfl rfl rfl ?_
  have hw := fun ro m hro => f12_ev s vs [] t hs hv (by simp) ht ro m hro
  have hro1 : ro ≤ m.length + 1 := by omega
  simp only [List.map_nil] at hw
  generalize withinW s vs [] t = q at hw ⊢
  obtain ⟨a, b, e⟩ := q
  simp only [go_sem, ↓reduceIte, hro, hro1, hw, encN]
/-- are two ways the same? -/
def intsB (a b : List Int) : Bool := a == b
set_option maxHeartbeats 2000000 in
theorem f15_ev (a b : List Int) (ha : a.length ≤ maxLen) (hb : b.length ≤ maxLen) (ro : Nat) (m : Mem) : evL Tryd.prog An ro 15 [.c (.sl (a.map cI)), .c (.sl (b.map cI))] m = some (.c (.v (.bool (intsB a b))), m) := by
  rw [maxLen_eq] at ha hb
  refine evL_by (n := 26) (by kernel_rfl) rfl fn15 rfl rfl rfl rfl ?_
  by_cases hlen : a.length ≠ b.length
  · have c1 : decide (a.length ≠ b.length) = true := dec_t hlen
    have : intsB a b = false := by
      unfold intsB
      rw [beq_eq_false_iff_ne]
      intro e; exact hlen (by rw [e])
    simp only [go_sem, ↓reduceIte, len_ne, c1, this]
  · have c1 : decide (a.length ≠ b.length) = false := dec_f hlen
    have hl : a.length = b.length := by simpa using hlen
    simp only [go_sem, ↓reduceIte, len_ne, c1]
    generalize hL : loopW _ _ = L
    obtain ⟨i, ⟨k1, k2⟩, hE, rfl⟩ := loopW_at hL (fun i : Nat => [(5, .c (.v (.int .i64 i)))]) (fun _ => [] :: m) (fun i => i ≤ a.length ∧ a.take i = b.take i) (fun i => i = a.length ∨ ∃ x y, a[i]? = some x ∧ b[i]? = some y ∧ x ≠ y) (fun i => a.length - i) 0 rfl rfl ⟨by omega, by simp⟩ (by
      rintro i ⟨k1, k2⟩ hE
      simp only [not_or, not_exists, not_and, ne_eq, Decidable.not_not] at hE
      obtain ⟨k3, k4⟩ := hE
      obtain ⟨x, hx⟩ : ∃ x, a[i]? = some x := ⟨_, List.getElem?_eq_getElem (by omega)⟩
      obtain ⟨y, hy⟩ : ∃ y, b[i]? = some y := ⟨_, List.getElem?_eq_getElem (by omega)⟩
      have d1 : decide ((i : Int) < (a.length : Int)) = true := dec_t (by omega)
      have d3 : IntKind.i64.wrap ((i : Int) + 1) = ((i + 1 : Nat) : Int) := wrap64 (by omega) (by omega)
      have d2 : (x != y) = false := by simpa using k4 x y hx hy
      refine ⟨i + 1, ⟨by omega, by rw [List.take_add_one, List.take_add_one, k2, hx, hy, k4 x y hx hy]⟩, by omega, ?_⟩
      rw [round_go]
      simp only [go_sem, ↓reduceIte, d1, d2, d3, hx, hy])
    clear hL
    rw [loopW_go]
    by_cases hi : i = a.length
    · have d1 : decide ((i : Int) < (a.length : Int)) = false := dec_f (by omega)
      have : intsB a b = true := by
        unfold intsB
        rw [beq_iff_eq]
        rw [hi, List.take_length, List.take_of_length_le (by omega)] at k2
        exact k2
      simp only [go_sem, ↓reduceIte, d1, this]
    · obtain ⟨x, y, hx, hy, hne⟩ := hE.resolve_left hi
      have hil := (List.getElem?_eq_some_iff.1 hx).1
      have d1 : decide ((i : Int) < (a.length : Int)) = true := dec_t (by omega)
      have d2 : (x != y) = true := by simpa using hne
      have : intsB a b = false := by
        unfold intsB
        rw [beq_eq_false_iff_ne]
        intro e
        rw [e] at hx
        exact hne (Option.some.inj (hx.symm.trans hy))
      simp only [go_sem, ↓reduceIte, d1, d2, hx, hy, this]
end Go.Eng
set_option maxRecDepth 100000
set_option linter.unusedVariables false
set_option linter.unusedSimpArgs false
namespace Go.Eng
open Go Go.Proofs
set_option maxHeartbeats 2000000 in
theorem f95_ev (x nm : ByteArray) (ro : Nat) (m : Mem) : evL Tryd.prog An ro 95 [.c (.v (.string x)), .c (.fp [.v (.string nm)])] m = some (.c (.v (.bool (beqS x nm))), m) := by
  refine evL_by (n := 7) (by kernel_rfl) rfl fn95 rfl rfl rfl rfl ?_
  simp only [go_sem, ↓reduceIte]
def isS (nm x : ByteArray) : Bool := beqS x nm
set_option maxHeartbeats 2000000 in
theorem f96_ev (l : List ByteArray) (nm : ByteArray) (hl : l.length ≤ maxLen) (ro : Nat) (m : Mem) :
    evL Tryd.prog An ro 96 [.c (.sl (l.map cS)), .c (.fn (.func 95) [.fp [.v (.string nm)]])] m = some (.c (.v (.int .i64 (if idx (isS nm) l < l.length then (idx (isS nm) l : Int) else -1))), m) := by
  rw [maxLen_eq] at hl
  refine evL_by (n := 19) (by kernel_rfl) rfl fn96 rfl rfl rfl rfl ?_
  simp only [go_sem, ↓reduceIte]
  generalize hL : loopW _ _ = L
  have hle := idx_le (isS nm) l
  obtain ⟨i, h1, hE, rfl⟩ := loopW_at hL (fun i : Nat => [(8, .c (.v (.int .i64 i)))]) (fun _ => [] :: m) (fun i => i ≤ idx (isS nm) l) (fun i => i = idx (isS nm) l) (fun i => l.length - i) 0 rfl rfl (by omega) (by
    rintro i h1 hE
    obtain ⟨x, hx⟩ : ∃ x, l[i]? = some x := ⟨_, List.getElem?_eq_getElem (by omega)⟩
    have c1 : decide ((i : Int) < (l.length : Int)) = true := dec_t (by omega)
    have c3 : IntKind.i64.wrap ((i : Int) + 1) = ((i + 1 : Nat) : Int) := wrap64 (by omega) (by omega)
    have c2 := idx_not (isS nm) l i x (by omega) hx
    unfold isS at c2
    refine ⟨i + 1, by omega, by omega, ?_⟩
    rw [round_go]
    simp only [go_sem, ↓reduceIte, c1, c2, c3, hx, f95_ev])
  clear hL
  subst hE
  rw [loopW_go]
  by_cases hi : idx (isS nm) l < l.length
  · obtain ⟨x, hx⟩ : ∃ x, l[idx (isS nm) l]? = some x := ⟨_, List.getElem?_eq_getElem hi⟩
    have c1 : decide ((idx (isS nm) l : Int) < (l.length : Int)) = true := dec_t (by omega)
    have c2 := idx_is (isS nm) l x hx
    unfold isS at c2
    simp only [go_sem, ↓reduceIte, c1, c2, hx, f95_ev, if_pos hi]
  · have c1 : decide ((idx (isS nm) l : Int) < (l.length : Int)) = false := dec_f (by omega)
    simp only [go_sem, ↓reduceIte, c1, if_neg hi]
def allS (l : List ByteArray) : List ByteArray := sBool :: sInt :: l
set_option maxHeartbeats 2000000 in
theorem f97_ev (l : List ByteArray) (hl : l.length ≤ 2000000) (ro : Nat) (m : Mem) : evL Tryd.prog An ro 97 [.c (.sl (l.map cS))] m = some (.tip (some 1) ((allS l).map cS), m) := by
  refine evL_by (n := 6) (by kernel_rfl) rfl fn97 rfl rfl rfl rfl ?_
  have h1 : (2 + l.length) * 16 ≤ 140737488355328 := by omega
  have h2 : 2 + l.length ≤ 9223372036854775807 := by omega
  simp only [go_sem, ↓reduceIte, h1, h2]
  rfl
def knownS (l : List ByteArray) (nm : ByteArray) : Bool := decide (idx (isS nm) (allS l) < (allS l).length)
set_option maxHeartbeats 2000000 in
theorem f90_ev (l : List ByteArray) (nm : ByteArray) (hl : l.length ≤ 2000000) (ro : Nat) (m : Mem) :
    evL Tryd.prog An ro 90 [.c (.sl (l.map cS)), .c (.v (.string nm))] m = some (.c (.v (.int .i64 (if idx (isS nm) (allS l) < (allS l).length then (idx (isS nm) (allS l) : Int) else -1))), m) := by
  refine evL_by (n := 11) (by kernel_rfl) rfl fn90 rfl rfl rfl rfl ?_
  have h := fun ro m => f96_ev (allS l) nm (by rw [maxLen_eq]; simp [allS]; omega) ro m
  simp only [go_sem, ↓reduceIte, f97_ev _ hl, h]
set_option maxHeartbeats 2000000 in
theorem f74_ev (l : List ByteArray) (nm : ByteArray) (hl : l.length ≤ 2000000) (ro : Nat) (m : Mem) : evL Tryd.prog An ro 74 [.c (.sl (l.map cS)), .c (.v (.string nm))] m = some (.c (.v (.bool (knownS l nm))), m) := by
  refine evL_by (n := 9) (by kernel_rfl) rfl fn74 rfl rfl rfl rfl ?_
  unfold knownS
  by_cases hi : idx (isS nm) (allS l) < (allS l).length
  · have c : decide ((idx (isS nm) (allS l) : Int) ≥ 0) = true := dec_t (by omega)
    simp only [go_sem, ↓reduceIte, f90_ev _ _ hl, if_pos hi, c, hi]
  · simp only [go_sem, ↓reduceIte, f90_ev _ _ hl, if_neg hi, hi]
    rfl
def thingS (s : Sg) (nm : ByteArray) : Bool := !beqS nm sBool && knownS s.sorts nm
set_option maxHeartbeats 2000000 in
theorem f38_ev (s : Sg) (nm : ByteArray) (hl : s.sorts.length ≤ 2000000) (ro : Nat) (m : Mem) : evL Tryd.prog An ro 38 [.c (encS s), .c (.v (.string nm))] m = some (.c (.v (.bool (thingS s nm))), m) := by
  refine evL_by (n := 13) (by kernel_rfl) rfl fn38 rfl rfl rfl rfl ?_
  unfold thingS
  cases hb : beqS nm sBool with
  | true => simp only [go_sem, ↓reduceIte, hb]
  | false => simp only [go_sem, ↓reduceIte, hb, f74_ev _ _ hl]
def bindB (op : Int) : Bool := op == 11 || op == 12
set_option maxHeartbeats 2000000 in
theorem f86_ev (c : Cl) (ro : Nat) (m : Mem) : evL Tryd.prog An ro 86 [.c (encC c)] m = some (.c (.v (.bool (bindB c.op))), m) := by
  refine evL_by (n := 11) (by kernel_rfl) rfl fn86 rfl rfl rfl rfl ?_
  unfold bindB
  cases hb : (c.op == 11) with
  | true => simp only [go_sem, ↓reduceIte, hb]
  | false => simp only [go_sem, ↓reduceIte, hb]
/-- how many terms and claims within -/
def arityT (op : Int) : Int := if op = 3 then -1 else if op = 4 ∨ op = 5 then 2 else 0
def arityS (op : Int) : Int := if op = 6 ∨ op = 11 ∨ op = 12 then 1 else if 7 ≤ op ∧ op ≤ 10 then 2 else 0
set_option maxHeartbeats 2000000 in
theorem f87_ev (op : Int) (ro : Nat) (m : Mem) : evL Tryd.prog An ro 87 [.c (.v (.int .i64 op))] m = some (.tup [.c (.v (.int .i64 (arityT op))), .c (.v (.int .i64 (arityS op)))], m) := by
  refine evL_by (n := 19) (by kernel_rfl) rfl fn87 rfl rfl rfl rfl ?_
  have hop : op = 3 ∨ op = 4 ∨ op = 5 ∨ op = 6 ∨ op = 7 ∨ op = 8 ∨ op = 9 ∨ op = 10 ∨ op = 11 ∨ op = 12 ∨ (op ≠ 3 ∧ op ≠ 4 ∧ op ≠ 5 ∧ op ≠ 6 ∧ op ≠ 7 ∧ op ≠ 8 ∧ op ≠ 9 ∧ op ≠ 10 ∧ op ≠ 11 ∧ op ≠ 12) := by omega
  rcases hop with rfl | rfl | rfl | rfl | rfl | rfl | rfl | rfl | rfl | rfl | ⟨h3, h4, h5, h6, h7, h8, h9, h10, h11, h12⟩
  case inr.inr.inr.inr.inr.inr.inr.inr.inr.inr =>
    have d3 : (op == 3) = false := by simp [h3]
    have d4 : (op == 4) = false := by simp [h4]
    have d5 : (op == 5) = false := by simp [h5]
    have d6 : (op == 6) = false := by simp [h6]
    have d7 : (op == 7) = false := by simp [h7]
    have d8 : (op == 8) = false := by simp [h8]
    have d9 : (op == 9) = false := by simp [h9]
    have d10 : (op == 10) = false := by simp [h10]
    have d11 : (op == 11) = false := by simp [h11]
    have d12 : (op == 12) = false := by simp [h12]
    have e1 : arityT op = 0 := by unfold arityT; rw [if_neg h3, if_neg (by omega)]
    have e2 : arityS op = 0 := by unfold arityS; rw [if_neg (by omega), if_neg (by omega)]
    simp only [go_sem, ↓reduceIte, d3, d4, d5, d6, d7, d8, d9, d10, d11, d12, e1, e2]
  all_goals
    simp only [go_sem, ↓reduceIte, Int.reduceBEq]
    rfl
end Go.Eng
