-- own work: an evaluator of the program's code, and what it answers
import Derived.Test.YtjmbdejejlcklaaDoorV4
/- The first error of variables, as the reference tells it. -/
set_option maxRecDepth 100000
set_option linter.unusedVariables false
set_option linter.unusedSimpArgs false
namespace Go.Eng
open Go Go.Proofs
theorem sortOf_any (vs : List Va) (nm : ByteArray) : (sortOf vs nm).isSome = vs.any (hasName nm) := by
  rw [← idx_any]
  unfold sortOf
  rw [Option.isSome_map]
  by_cases h : idx (hasName nm) vs < vs.length
  · rw [List.getElem?_eq_getElem h, dec_t h]; rfl
  · rw [List.getElem?_eq_none (by omega), dec_f h]; rfl
set_option maxHeartbeats 8000000 in
theorem rvars_ev (s : Sg) (vs : List Va) (hs : okS s) (hv : ∀ v ∈ vs, okV v) (hl : vs.length ≤ maxLen) (ro : Nat) (m : Mem) (hro : ro ≤ m.length) :
    evL Tryd.prog An ro 23 [.c (encS s), .c (.sl (vs.map encV))] m = some (.c (.v (.int .i64 (varsE s vs))), m) := by
  rw [maxLen_eq] at hl
  refine evL_by (n := 68) (by kernel_rfl) rfl fn23 rfl rfl rfl rfl ?_
  unfold varsE
  have hro1 : ro ≤ m.length + 1 := by omega
  have hf := fun nm (ro : Nat) (m : Mem) (h : ro ≤ m.length) => rfind_ev s nm hs.funs ro m h
  have hk := fun nm (ro : Nat) (m : Mem) => known_ev s nm hs.sorts ro m
  by_cases h256 : 256 < vs.length
  · have d : decide (256 < (vs.length : Int)) = true := dec_t (by omega)
    rw [if_pos h256]
    simp only [go_sem, ↓reduceIte, gt_iff_lt, d]
  have d : decide (256 < (vs.length : Int)) = false := dec_f (by omega)
  rw [if_neg h256]
  simp only [go_sem, ↓reduceIte, gt_iff_lt, d]
  generalize hL : loopW _ _ = L
  have hso : ∀ (i : Nat) (nm : ByteArray) (ro : Nat) (m : Mem), evL Tryd.prog An ro 16 [.c (.sl ((vs.map encV).take i)), .c (.v (.string nm))] m = some (.tup (encO (sortOf (vs.take i) nm)), m) := fun i nm ro m => by
    rw [← List.map_take]
    exact rsort_ev (vs.take i) nm (by rw [maxLen_eq, List.length_take]; omega) ro m
  obtain ⟨i, ⟨k1, k2⟩, hE, rfl⟩ := loopW_at hL (fun i : Nat => [(5, .c (.v (.int .i64 i)))]) (fun _ => [] :: m) (fun i => i ≤ vs.length ∧ varsGo s [] vs = varsGo s (vs.take i) (vs.drop i)) (fun i => i = vs.length ∨ ∃ v, vs[i]? = some v ∧ badV s (vs.take i) v ≠ 0) (fun i => vs.length - i) 0 rfl rfl ⟨by omega, by simp⟩ (by
    rintro i ⟨k1, k2⟩ hE
    simp only [not_or, not_exists, not_and] at hE
    obtain ⟨k3, k4⟩ := hE
    obtain ⟨v, hx⟩ : ∃ v, vs[i]? = some v := ⟨_, List.getElem?_eq_getElem (by omega)⟩
    have hok := hv v (List.mem_of_getElem? hx)
    have c1 : decide ((i : Int) < (vs.length : Int)) = true := dec_t (by omega)
    have c3 : IntKind.i64.wrap ((i : Int) + 1) = ((i + 1 : Nat) : Int) := wrap64 (by omega) (by omega)
    have c4 : (i : Int) ≤ (vs.length : Int) := by omega
    have c2 : badV s (vs.take i) v = 0 := by have := k4 v hx; omega
    have hn := rname_ev v.nm hok.nm
    have ⟨a1, a2, a3, a4, a5⟩ : nameS v.nm = true ∧ (findF s v.nm).2 = false ∧ knownR s v.so = true ∧ beqS v.so sBool = false ∧ (sortOf (vs.take i) v.nm).isSome = false := by
      rw [sortOf_any]
      unfold badV at c2
      rw [thing_known] at c2
      cases h1 : nameS v.nm <;> cases h3 : (findF s v.nm).2 <;> cases h4 : knownR s v.so <;> cases h6 : beqS v.so sBool <;> cases h5 : (vs.take i).any (hasName v.nm) <;> simp [h1, h3, h4, h5, h6] at c2 ⊢
    rw [a1] at hn
    have a5' : sortOf (vs.take i) v.nm = none := by simpa using a5
    have hs' := hso i v.nm
    rw [a5'] at hs'
    have hk' := hk v.so
    rw [a3] at hk'
    refine ⟨i + 1, ⟨by omega, ?_⟩, by omega, ?_⟩
    · rw [k2, drop_get hx, varsGo, if_pos c2, take_one hx]
    · rw [round_go]
      simp only [go_sem, ↓reduceIte, c1, c3, c4, hx, hf, hk', hn, hs', a2, a4, hro, hro1, noFun, encO])
  clear hL
  rw [loopW_go, k2]
  by_cases hi : i = vs.length
  · subst hi
    have c1 : decide ((vs.length : Int) < (vs.length : Int)) = false := dec_f (by omega)
    rw [List.drop_length, varsGo]
    simp only [go_sem, ↓reduceIte, c1]
  · obtain ⟨v, hx, hb⟩ := hE.resolve_left hi
    have hok := hv v (List.mem_of_getElem? hx)
    have c1 : decide ((i : Int) < (vs.length : Int)) = true := dec_t (by omega)
    have c4 : (i : Int) ≤ (vs.length : Int) := by omega
    have hn := rname_ev v.nm hok.nm
    have hs' := hso i v.nm
    have hk' := hk v.so
    rw [drop_get hx, varsGo, if_neg hb]
    unfold badV
    rw [thing_known, ← sortOf_any]
    cases h3 : (findF s v.nm).2 with
    | true =>
      rw [Bool.or_true, if_pos rfl]
      simp only [go_sem, ↓reduceIte, c1, c4, hx, hf, h3, hro, hro1, noFun]
    | false =>
      cases h1 : nameS v.nm with
      | false =>
        rw [h1] at hn
        simp only [go_sem, ↓reduceIte, c1, c4, hx, hf, h3, hn, hro, hro1, noFun]
      | true =>
        rw [h1] at hn
        cases h4 : knownR s v.so with
        | false =>
          rw [h4] at hk'
          simp only [go_sem, ↓reduceIte, c1, c4, hx, hf, h3, hn, hk', hro, hro1, noFun]
        | true =>
          rw [h4] at hk'
          cases h6 : beqS v.so sBool with
          | true =>
            simp only [go_sem, ↓reduceIte, c1, c4, hx, hf, h3, hn, hk', h6, hro, hro1, noFun]
          | false =>
            cases h5 : sortOf (vs.take i) v.nm with
            | none => exact absurd (by unfold badV; rw [thing_known, ← sortOf_any]; simp [h1, h3, h4, h5, h6]) hb
            | some so =>
              rw [h5] at hs'
              simp only [go_sem, ↓reduceIte, c1, c4, hx, hf, h3, hn, hk', h6, hs', hro, hro1, noFun, encO, Option.isSome_some]
end Go.Eng
