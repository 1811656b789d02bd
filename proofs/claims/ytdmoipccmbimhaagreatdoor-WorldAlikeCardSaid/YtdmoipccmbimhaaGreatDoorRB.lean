-- own work: an evaluator of the program's code, and what it answers
import Derived.Test.YtdmoipccmbimhaaGreatDoorTab
import Derived.Test.YtdmoipccmbimhaaGreatDoorWellB
set_option maxRecDepth 100000
set_option linter.unusedVariables false
set_option linter.unusedSimpArgs false
namespace Go.Eng
open Go Go.Proofs
set_option maxHeartbeats 1000000 in
theorem has_ev (l : List ByteArray) (nm : ByteArray) (hl : l.length ≤ maxLen) (ro : Nat) (m : Mem) :
    evL Tryz.prog An ro 152 [.c (.sl (l.map cS)), .c (.v (.string nm))] m = some (.c (.v (.bool (l.any (isS nm)))), m) := by
  rw [maxLen_eq] at hl
  rw [← idx_any]
  refine evL_by (n := 18) (by kernel_rfl) rfl fn152 rfl rfl rfl rfl ?_
  simp only [go_sem, ↓reduceIte]
  generalize hL : loopW _ _ = L
  have hle := idx_le (isS nm) l
  obtain ⟨i, h1, hE, rfl⟩ := loopW_at hL (fun i : Nat => [(5, .c (.v (.int .i64 i)))]) (fun _ => [] :: m) (fun i => i ≤ idx (isS nm) l) (fun i => i = idx (isS nm) l) (fun i => l.length - i) 0 rfl rfl (by omega) (by
    rintro i h1 hE
    obtain ⟨x, hx⟩ : ∃ x, l[i]? = some x := ⟨_, List.getElem?_eq_getElem (by omega)⟩
    have c1 : decide ((i : Int) < (l.length : Int)) = true := dec_t (by omega)
    have c3 : IntKind.i64.wrap ((i : Int) + 1) = ((i + 1 : Nat) : Int) := wrap64 (by omega) (by omega)
    have c2 := idx_not (isS nm) l i x (by omega) hx
    unfold isS at c2
    refine ⟨i + 1, by omega, by omega, ?_⟩
    rw [round_go]
    simp only [go_sem, ↓reduceIte, c1, c2, c3, hx])
  clear hL
  subst hE
  rw [loopW_go]
  by_cases hi : idx (isS nm) l < l.length
  · obtain ⟨x, hx⟩ : ∃ x, l[idx (isS nm) l]? = some x := ⟨_, List.getElem?_eq_getElem hi⟩
    have c1 : decide ((idx (isS nm) l : Int) < (l.length : Int)) = true := dec_t (by omega)
    have c2 := idx_is (isS nm) l x hx
    unfold isS at c2
    rw [dec_t hi]
    simp only [go_sem, ↓reduceIte, c1, c2, hx]
  · have c1 : decide ((idx (isS nm) l : Int) < (l.length : Int)) = false := dec_f (by omega)
    rw [dec_f hi]
    simp only [go_sem, ↓reduceIte, c1]
end Go.Eng
set_option maxRecDepth 100000
set_option linter.unusedVariables false
set_option linter.unusedSimpArgs false
namespace Go.Eng
open Go Go.Proofs
def knownR (s : Sg) (nm : ByteArray) : Bool := beqS nm sBool || (beqS nm sInt || s.sorts.any (isS nm))
theorem thing_known (s : Sg) (nm : ByteArray) : thingS s nm = (knownR s nm && !beqS nm sBool) := by
  unfold thingS knownS knownR
  rw [idx_any]
  simp only [allS, List.any_cons, isS, beqS_comm sBool nm, beqS_comm sInt nm]
  cases beqS nm sBool <;> simp
set_option maxHeartbeats 1000000 in
theorem known_ev (s : Sg) (nm : ByteArray) (hl : s.sorts.length ≤ maxLen) (ro : Nat) (m : Mem) :
    evL Tryz.prog An ro 114 [.c (encS s), .c (.v (.string nm))] m = some (.c (.v (.bool (knownR s nm))), m) := by
  refine evL_by (n := 17) (by kernel_rfl) rfl fn114 rfl rfl rfl rfl ?_
  have hh := fun ro m => has_ev s.sorts nm hl ro m
  unfold knownR
  cases h1 : beqS nm sBool with
  | true => simp only [go_sem, ↓reduceIte, h1]
  | false =>
    cases h2 : beqS nm sInt with
    | true => simp only [go_sem, ↓reduceIte, h1, h2]
    | false => simp only [go_sem, ↓reduceIte, h1, h2, hh]
set_option maxHeartbeats 1000000 in
theorem rsort_ev (vs : List Va) (nm : ByteArray) (hl : vs.length ≤ maxLen) (ro : Nat) (m : Mem) :
    evL Tryz.prog An ro 26 [.c (.sl (vs.map encV)), .c (.v (.string nm))] m = some (.tup (encO (sortOf vs nm)), m) := by
  rw [maxLen_eq] at hl
  refine evL_by (n := 25) (by kernel_rfl) rfl fn26 rfl rfl rfl rfl ?_
  simp only [go_sem, ↓reduceIte]
  generalize hL : loopW _ _ = L
  have hle := idx_le (hasName nm) vs
  obtain ⟨i, h1, hE, rfl⟩ := loopW_at hL (fun i : Nat => [(6, .c (.v (.int .i64 i)))]) (fun _ => [] :: m) (fun i => i ≤ idx (hasName nm) vs) (fun i => i = idx (hasName nm) vs) (fun i => vs.length - i) 0 rfl rfl (by omega) (by
    rintro i h1 hE
    obtain ⟨x, hx⟩ : ∃ x, vs[i]? = some x := ⟨_, List.getElem?_eq_getElem (by omega)⟩
    have c1 : decide ((i : Int) < (vs.length : Int)) = true := dec_t (by omega)
    have c3 : IntKind.i64.wrap ((i : Int) + 1) = ((i + 1 : Nat) : Int) := wrap64 (by omega) (by omega)
    have c2 := idx_not (hasName nm) vs i x (by omega) hx
    unfold hasName at c2
    refine ⟨i + 1, by omega, by omega, ?_⟩
    rw [round_go]
    simp only [go_sem, ↓reduceIte, c1, c2, c3, hx])
  clear hL
  subst hE
  rw [loopW_go]
  unfold sortOf
  by_cases hi : idx (hasName nm) vs < vs.length
  · obtain ⟨x, hx⟩ : ∃ x, vs[idx (hasName nm) vs]? = some x := ⟨_, List.getElem?_eq_getElem hi⟩
    have c1 : decide ((idx (hasName nm) vs : Int) < (vs.length : Int)) = true := dec_t (by omega)
    have c2 := idx_is (hasName nm) vs x hx
    unfold hasName at c2
    simp only [go_sem, ↓reduceIte, c1, c2, hx, encO]
  · have c1 : decide ((idx (hasName nm) vs : Int) < (vs.length : Int)) = false := dec_f (by omega)
    rw [List.getElem?_eq_none (by omega)]
    simp only [go_sem, ↓reduceIte, c1, encO, Option.map_none]
set_option maxHeartbeats 1000000 in
theorem rfind_ev (s : Sg) (nm : ByteArray) (hl : s.funs.length ≤ maxLen) (ro : Nat) (m : Mem) (hro : ro ≤ m.length) :
    evL Tryz.prog An ro 102 [.c (encS s), .c (.v (.string nm))] m = some (.tup [.c (encF (findF s nm).1), .c (.v (.bool (findF s nm).2))], m) := by
  rw [maxLen_eq] at hl
  refine evL_by (n := 28) (by kernel_rfl) rfl fn102 rfl rfl rfl rfl ?_
  simp only [go_sem, ↓reduceIte]
  generalize hL : loopW _ _ = L
  have hle := idx_le (hasF nm) s.funs
  obtain ⟨i, h1, hE, rfl⟩ := loopW_at hL (fun i : Nat => [(6, .c (.v (.int .i64 i)))]) (fun _ => [(4, boxF0)] :: m) (fun i => i ≤ idx (hasF nm) s.funs) (fun i => i = idx (hasF nm) s.funs) (fun i => s.funs.length - i) 0 rfl rfl (by omega) (by
    rintro i h1 hE
    obtain ⟨x, hx⟩ : ∃ x, s.funs[i]? = some x := ⟨_, List.getElem?_eq_getElem (by omega)⟩
    have c1 : decide ((i : Int) < (s.funs.length : Int)) = true := dec_t (by omega)
    have c3 : IntKind.i64.wrap ((i : Int) + 1) = ((i + 1 : Nat) : Int) := wrap64 (by omega) (by omega)
    have c2 := idx_not (hasF nm) s.funs i x (by omega) hx
    unfold hasF at c2
    refine ⟨i + 1, by omega, by omega, ?_⟩
    rw [round_go]
    simp only [go_sem, ↓reduceIte, c1, c2, c3, hx, noFun, hro])
  clear hL
  subst hE
  rw [loopW_go]
  by_cases hi : idx (hasF nm) s.funs < s.funs.length
  · obtain ⟨x, hx⟩ : ∃ x, s.funs[idx (hasF nm) s.funs]? = some x := ⟨_, List.getElem?_eq_getElem hi⟩
    have c1 : decide ((idx (hasF nm) s.funs : Int) < (s.funs.length : Int)) = true := dec_t (by omega)
    have c2 := idx_is (hasF nm) s.funs x hx
    unfold hasF at c2
    have e : findF s nm = (x, true) := by unfold findF; rw [hx]
    rw [e]
    simp only [go_sem, ↓reduceIte, c1, c2, hx, noFun, hro]
  · have c1 : decide ((idx (hasF nm) s.funs : Int) < (s.funs.length : Int)) = false := dec_f (by omega)
    have e : findF s nm = (noFun, false) := by unfold findF; rw [List.getElem?_eq_none (by omega)]
    rw [e]
    simp only [go_sem, ↓reduceIte, c1, noFun, hro]
    rfl
end Go.Eng
