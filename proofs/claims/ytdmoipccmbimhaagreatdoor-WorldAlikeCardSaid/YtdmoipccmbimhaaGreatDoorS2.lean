-- own work: an evaluator of the program's code, and what it answers
import Derived.Test.YtdmoipccmbimhaaGreatDoorS1
import Derived.Test.YtdmoipccmbimhaaGreatDoorRB
/- What is wrong with a signature: the reference. -/
set_option maxRecDepth 100000
set_option linter.unusedVariables false
set_option linter.unusedSimpArgs false
namespace Go.Eng
open Go Go.Proofs
set_option maxHeartbeats 4000000 in
theorem rsorts_ev (l : List ByteArray) (hl : l.length ≤ maxLen) (hs : ∀ x ∈ l, x.size ≤ maxLen) (ro : Nat) (m : Mem) :
    evL Tryz.prog An ro 112 [.c (.sl (l.map cS))] m = some (.c (.v (.int .i64 (sortsE l))), m) := by
  rw [maxLen_eq] at hl
  refine evL_by (n := 41) (by kernel_rfl) rfl fn112 rfl rfl rfl rfl ?_
  unfold sortsE
  by_cases h64 : 64 < l.length
  · have c1 : decide ((l.length : Int) > 64) = true := dec_t (by omega)
    rw [if_pos h64]
    simp only [go_sem, ↓reduceIte, c1]
  have c0 : decide ((l.length : Int) > 64) = false := dec_f (by omega)
  rw [if_neg h64]
  simp only [go_sem, ↓reduceIte, c0]
  generalize hL : loopW _ _ = L
  have hle := fstI_le (sortE l) l.length
  have hT : ∀ i : Nat, i < l.length → ((l.map cS).take i) = (l.take i).map cS := fun i _ => List.map_take.symm
  obtain ⟨i, h1, hE, rfl⟩ := loopW_at hL (fun i : Nat => [(3, .c (.v (.int .i64 i)))]) (fun _ => [] :: m) (fun i => i ≤ fstI (sortE l) l.length) (fun i => i = fstI (sortE l) l.length) (fun i => l.length - i) 0 rfl rfl (by omega) (by
    rintro i h1 hE
    obtain ⟨x, hx⟩ : ∃ x, l[i]? = some x := ⟨_, List.getElem?_eq_getElem (by omega)⟩
    have c1 : decide ((i : Int) < (l.length : Int)) = true := dec_t (by omega)
    have c3 : IntKind.i64.wrap ((i : Int) + 1) = ((i + 1 : Nat) : Int) := wrap64 (by omega) (by omega)
    have c2 := fstI_not (e := sortE l) (n := l.length) (i := i) (by omega)
    simp only [sortE, hx] at c2
    have k1 : mayS x = true := by cases h : mayS x <;> simp [h] at c2 ⊢
    have k2 : (l.take i).any (isS x) = false := by rw [k1] at c2; cases h : (l.take i).any (isS x) <;> simp [h] at c2 ⊢
    simp only [mayS, Bool.and_eq_true, Bool.not_eq_true'] at k1
    have e1 := fun ro m => rname_ev x (hs x (List.mem_of_getElem? hx)) ro m
    have e2 := fun ro m => has_ev (l.take i) x (by rw [maxLen_eq, List.length_take]; omega) ro m
    rw [k1.1] at e1
    rw [k2] at e2
    have q1 : (i : Int) ≤ (l.length : Int) := by omega
    have q0 : (0 : Int) ≤ (i : Int) := by omega
    refine ⟨i + 1, by omega, by omega, ?_⟩
    rw [round_go]
    simp only [go_sem, ↓reduceIte, c1, c3, hx, e1, e2, k1.2.1, k1.2.2, headOK_strs, q0, q1, List.length_map, and_self, Int.toNat_natCast, Int.toNat_zero, List.drop_zero, Nat.sub_zero, hT i (by omega)])
  clear hL
  subst hE
  rw [loopW_go]
  generalize hN : fstI (sortE l) l.length = N at *
  unfold fstE
  rw [hN]
  by_cases hi : N < l.length
  · obtain ⟨x, hx⟩ : ∃ x, l[N]? = some x := ⟨_, List.getElem?_eq_getElem hi⟩
    have c1 : decide ((N : Int) < (l.length : Int)) = true := dec_t (by omega)
    have c2 := fstI_is (e := sortE l) (n := l.length) (by omega)
    rw [hN] at c2
    rw [if_pos hi]
    simp only [sortE, hx] at c2 ⊢
    have e1 := fun ro m => rname_ev x (hs x (List.mem_of_getElem? hx)) ro m
    have e2 := fun ro m => has_ev (l.take N) x (by rw [maxLen_eq, List.length_take]; omega) ro m
    have q1 : (N : Int) ≤ (l.length : Int) := by omega
    have q0 : (0 : Int) ≤ (N : Int) := by omega
    cases k1 : nameS x with
    | false =>
      rw [k1] at e1
      have k0 : mayS x = false := by rw [mayS, k1]; rfl
      simp only [go_sem, ↓reduceIte, c1, hx, e1, k0]
    | true =>
      rw [k1] at e1
      cases k3 : beqS x sBool with
      | true =>
        have k0 : mayS x = false := by rw [mayS, k1, k3]; rfl
        simp only [go_sem, ↓reduceIte, c1, hx, e1, k3, k0]
      | false =>
        cases k4 : beqS x sInt with
        | true =>
          have k0 : mayS x = false := by rw [mayS, k1, k3, k4]; rfl
          simp only [go_sem, ↓reduceIte, c1, hx, e1, k3, k4, k0]
        | false =>
          have k0 : mayS x = true := by rw [mayS, k1, k3, k4]; rfl
          rw [k0] at c2
          cases k2 : (l.take N).any (isS x) with
          | false => rw [k2] at c2; simp at c2
          | true =>
            rw [k2] at e2
            simp only [go_sem, ↓reduceIte, c1, hx, e1, e2, k3, k4, headOK_strs, q0, q1, List.length_map, and_self, Int.toNat_natCast, Int.toNat_zero, List.drop_zero, Nat.sub_zero, hT N hi, Bool.true_eq_false, k0]
  · have c1 : decide ((N : Int) < (l.length : Int)) = false := dec_f (by omega)
    rw [if_neg hi]
    simp only [go_sem, ↓reduceIte, c1]
theorem knownSR (s : Sg) (nm : ByteArray) : knownS s.sorts nm = knownR s nm := by
  unfold knownR knownS
  rw [idx_any]
  simp only [allS, List.any_cons, isS, beqS_comm sBool nm, beqS_comm sInt nm]
theorem findF_any (fs : List Fu) (nm : ByteArray) : (findF ⟨[], fs⟩ nm).2 = fs.any (fun g => isS nm g.nm) := by
  have h : idx (hasF nm) fs = idx (fun g => isS nm g.nm) fs := rfl
  unfold findF
  rw [← idx_any]
  simp only [h]
  by_cases hi : idx (fun g => isS nm g.nm) fs < fs.length
  · rw [List.getElem?_eq_getElem hi, dec_t hi]
  · rw [List.getElem?_eq_none (by omega), dec_f hi]
theorem headOK_funs (l : List Fu) : headOK 3 (l.map encF) = true := by cases l <;> rfl
attribute [go_sem] headOK_funs
set_option maxHeartbeats 8000000 in
theorem rsign_ev (s : Sg) (hs : okS s) (ro : Nat) (m : Mem) (hro : ro ≤ m.length) :
    evL Tryz.prog An ro 72 [.c (encS s)] m = some (.c (.v (.int .i64 (signE s))), m) := by
  have hro1 : ro ≤ m.length + 1 := by omega
  have hl := hs.funs
  rw [maxLen_eq] at hl
  refine evL_by (n := 79) (by kernel_rfl) rfl fn72 rfl rfl rfl rfl ?_
  have e0 := fun ro m => rsorts_ev s.sorts hs.sorts hs.each ro m
  have hk := fun nm ro m => known_ev s nm hs.sorts ro m
  unfold signE
  generalize sortsE s.sorts = e at e0
  by_cases h0 : e = 0
  · subst h0
    have cz : ((0 : Int) != 0) = false := rfl
    rw [if_neg (by simp)]
    by_cases h2 : 256 < s.funs.length
    · have c1 : decide ((s.funs.length : Int) > 256) = true := dec_t (by omega)
      rw [if_pos h2]
      simp only [go_sem, ↓reduceIte, e0, c1, cz]
    have c0 : decide ((s.funs.length : Int) > 256) = false := dec_f (by omega)
    rw [if_neg h2]
    simp only [go_sem, ↓reduceIte, e0, c0, cz]
    generalize hL : loopW _ _ = L
    have hle := fstI_le (funE s) s.funs.length
    have hfi := fun (n : Nat) nm ro m hro => rfind_ev ⟨[], s.funs.take n⟩ nm (by rw [maxLen_eq]; simp only [List.length_take]; omega) ro m hro
    simp only [findF_any, encS, List.map_nil, List.map_take] at hfi
    obtain ⟨i, h1, hE, rfl⟩ := loopW_at hL (fun i : Nat => [(4, .c (.v (.int .i64 i)))]) (fun _ => [] :: m) (fun i => i ≤ fstI (funE s) s.funs.length) (fun i => i = fstI (funE s) s.funs.length) (fun i => s.funs.length - i) 0 rfl rfl (by omega) (by
      rintro i h1 hE
      obtain ⟨f, hx⟩ : ∃ x, s.funs[i]? = some x := ⟨_, List.getElem?_eq_getElem (by omega)⟩
      have hf := hs.fun_ f (List.mem_of_getElem? hx)
      have hfl := hf.args
      rw [maxLen_eq] at hfl
      have c1 : decide ((i : Int) < (s.funs.length : Int)) = true := dec_t (by omega)
      have c3 : IntKind.i64.wrap ((i : Int) + 1) = ((i + 1 : Nat) : Int) := wrap64 (by omega) (by omega)
      have c4 : (i : Int) ≤ (s.funs.length : Int) := by omega
      have c2 := fstI_not (e := funE s) (n := s.funs.length) (i := i) (by omega)
      simp only [funE, hx] at c2
      have k0 : checkE s f = 0 := by
        by_cases h : checkE s f = 0
        · exact h
        · rw [if_pos h] at c2; exact absurd c2 h
      have k5 : (s.funs.take i).any (fun g => isS f.nm g.nm) = false := by
        rw [k0, if_neg (by simp)] at c2
        cases h : (s.funs.take i).any (fun g => isS f.nm g.nm) <;> simp [h] at c2 ⊢
      unfold checkE at k0
      have k1 : nameS f.nm = true := by cases h : nameS f.nm <;> simp [h] at k0 ⊢
      have k2 : ¬ 8 < f.args.length := by intro h; rw [k1, if_pos h] at k0; simp at k0
      have k3 : f.args.all (thingS s) = true := by rw [k1, if_neg k2] at k0; cases h : f.args.all (thingS s) <;> simp [h] at k0 ⊢
      have k4 : knownS s.sorts f.res = true := by rw [k1, if_neg k2, k3] at k0; cases h : knownS s.sorts f.res <;> simp [h] at k0 ⊢
      have hn := fun ro m => rname_ev f.nm hf.nm ro m
      rw [k1] at hn
      have c8 : decide ((f.args.length : Int) > 8) = false := dec_f (by omega)
      have hkr := hk f.res
      rw [← knownSR, k4] at hkr
      have hfi' := hfi i f.nm
      rw [k5] at hfi'
      refine ⟨i + 1, by omega, by omega, ?_⟩
      rw [round_go]
      simp only [go_sem, ↓reduceIte, c1, c3, c4, hx, hn, c8, hro, hro1]
      generalize hL2 : loopW _ _ = L2
      have hle2 := idx_le (fun a => !thingS s a) f.args
      obtain ⟨j, j1, jE, rfl⟩ := loopW_at hL2 (fun i : Nat => [(6, .c (.v (.int .i64 i)))]) (fun _ => [(5, boxF f)] :: m) (fun j => j ≤ idx (fun a => !thingS s a) f.args) (fun j => j = idx (fun a => !thingS s a) f.args) (fun j => f.args.length - j) 0 rfl rfl (by omega) (by
        rintro j j1 jE
        obtain ⟨x, hx2⟩ : ∃ x, f.args[j]? = some x := ⟨_, List.getElem?_eq_getElem (by omega)⟩
        have d1 : decide ((j : Int) < (f.args.length : Int)) = true := dec_t (by omega)
        have d3 : IntKind.i64.wrap ((j : Int) + 1) = ((j + 1 : Nat) : Int) := wrap64 (by omega) (by omega)
        have d2 := idx_not (fun a => !thingS s a) f.args j x (by omega) hx2
        simp only [thing_known, Bool.not_eq_false', Bool.and_eq_true, Bool.not_eq_true'] at d2
        have e2 := hk x
        rw [d2.1] at e2
        refine ⟨j + 1, by omega, by omega, ?_⟩
        rw [round_go]
        simp only [go_sem, ↓reduceIte, d1, d3, hx2, e2, d2.2, hro, hro1])
      clear hL2
      rw [loopW_go]
      have hall : j = f.args.length := by
        have := idx_any (fun a => !thingS s a) f.args
        rw [List.any_eq_not_all_not] at this
        simp only [Bool.not_not] at this
        rw [show (fun a => thingS s a) = thingS s from rfl, k3] at this
        have := of_decide_eq_false this
        omega
      have d1 : decide ((j : Int) < (f.args.length : Int)) = false := dec_f (by omega)
      simp only [go_sem, ↓reduceIte, c1, c3, c4, hx, hn, c8, hro, hro1, d1, hkr, hfi'])
    clear hL
    rw [loopW_go]
    unfold fstE
    rw [← hE]
    by_cases hi : i < s.funs.length
    · obtain ⟨f, hx⟩ : ∃ x, s.funs[i]? = some x := ⟨_, List.getElem?_eq_getElem hi⟩
      have hf := hs.fun_ f (List.mem_of_getElem? hx)
      have hfl := hf.args
      rw [maxLen_eq] at hfl
      have c1 : decide ((i : Int) < (s.funs.length : Int)) = true := dec_t (by omega)
      have c4 : (i : Int) ≤ (s.funs.length : Int) := by omega
      have c2 := fstI_is (e := funE s) (n := s.funs.length) (by omega)
      rw [← hE] at c2
      rw [if_pos hi]
      simp only [funE, hx] at c2 ⊢
      have hn := fun ro m => rname_ev f.nm hf.nm ro m
      cases k1 : nameS f.nm with
      | false =>
        rw [k1] at hn
        have e : checkE s f = 10 := by unfold checkE; rw [k1]; rfl
        rw [e, if_pos (by decide)]
        simp only [go_sem, ↓reduceIte, c1, c4, hx, hn, hro, hro1]
      | true =>
        rw [k1] at hn
        by_cases k2 : 8 < f.args.length
        · have c8 : decide ((f.args.length : Int) > 8) = true := dec_t (by omega)
          have e : checkE s f = 12 := by unfold checkE; rw [k1, if_pos k2]; rfl
          rw [e, if_pos (by decide)]
          simp only [go_sem, ↓reduceIte, c1, c4, hx, hn, c8, hro, hro1]
        have c8 : decide ((f.args.length : Int) > 8) = false := dec_f (by omega)
        simp only [go_sem, ↓reduceIte, c1, c4, hx, hn, c8, hro, hro1]
        generalize hL2 : loopW _ _ = L2
        have hle2 := idx_le (fun a => !thingS s a) f.args
        obtain ⟨j, j1, jE, rfl⟩ := loopW_at hL2 (fun i : Nat => [(6, .c (.v (.int .i64 i)))]) (fun _ => [(5, boxF f)] :: m) (fun j => j ≤ idx (fun a => !thingS s a) f.args) (fun j => j = idx (fun a => !thingS s a) f.args) (fun j => f.args.length - j) 0 rfl rfl (by omega) (by
          rintro j j1 jE
          obtain ⟨x, hx2⟩ : ∃ x, f.args[j]? = some x := ⟨_, List.getElem?_eq_getElem (by omega)⟩
          have d1 : decide ((j : Int) < (f.args.length : Int)) = true := dec_t (by omega)
          have d3 : IntKind.i64.wrap ((j : Int) + 1) = ((j + 1 : Nat) : Int) := wrap64 (by omega) (by omega)
          have d2 := idx_not (fun a => !thingS s a) f.args j x (by omega) hx2
          simp only [thing_known, Bool.not_eq_false', Bool.and_eq_true, Bool.not_eq_true'] at d2
          have e2 := hk x
          rw [d2.1] at e2
          refine ⟨j + 1, by omega, by omega, ?_⟩
          rw [round_go]
          simp only [go_sem, ↓reduceIte, d1, d3, hx2, e2, d2.2, hro, hro1])
        clear hL2
        rw [loopW_go]
        have hall : f.args.all (thingS s) = !decide (j < f.args.length) := by
          rw [jE, idx_any, List.any_eq_not_all_not]; simp
        by_cases hj : j < f.args.length
        · obtain ⟨x, hx2⟩ : ∃ x, f.args[j]? = some x := ⟨_, List.getElem?_eq_getElem hj⟩
          have d1 : decide ((j : Int) < (f.args.length : Int)) = true := dec_t (by omega)
          have d2 := idx_is (fun a => !thingS s a) f.args x (by rw [← jE]; exact hx2)
          rw [dec_t hj] at hall
          have e : checkE s f = 11 := by unfold checkE; rw [k1, if_neg k2, hall]; rfl
          rw [e, if_pos (by decide)]
          simp only [thing_known, Bool.not_eq_true', Bool.and_eq_false_iff, Bool.not_eq_false'] at d2
          have e2 := hk x
          cases k6 : knownR s x with
          | false => rw [k6] at e2; simp only [go_sem, ↓reduceIte, d1, hx2, e2, hro, hro1]
          | true =>
            have d3 : beqS x sBool = true := by rw [k6] at d2; simpa using d2
            rw [k6] at e2
            simp only [go_sem, ↓reduceIte, d1, hx2, e2, d3, hro, hro1]
        · have d1 : decide ((j : Int) < (f.args.length : Int)) = false := dec_f (by omega)
          rw [dec_f hj] at hall
          have hkr := hk f.res
          rw [← knownSR] at hkr
          cases k4 : knownS s.sorts f.res with
          | false =>
            rw [k4] at hkr
            have e : checkE s f = 11 := by unfold checkE; rw [k1, if_neg k2, hall, k4]; rfl
            rw [e, if_pos (by decide)]
            simp only [go_sem, ↓reduceIte, d1, hkr, hro, hro1]
          | true =>
            rw [k4] at hkr
            have e : checkE s f = 0 := by unfold checkE; rw [k1, if_neg k2, hall, k4]; rfl
            rw [e, if_neg (by simp)] at c2 ⊢
            have k5 : (s.funs.take i).any (fun g => isS f.nm g.nm) = true := by cases h : (s.funs.take i).any (fun g => isS f.nm g.nm) <;> simp [h] at c2 ⊢
            have hfi' := hfi i f.nm
            rw [k5] at hfi' ⊢
            simp only [go_sem, ↓reduceIte, d1, hkr, hfi', c1, c4, hx, hro, hro1]
    · have c1 : decide ((i : Int) < (s.funs.length : Int)) = false := dec_f (by omega)
      rw [if_neg hi]
      simp only [go_sem, ↓reduceIte, c1]
  · have c1 : (e != 0) = true := bneI_t h0
    rw [if_pos h0]
    simp only [go_sem, ↓reduceIte, e0, c1]
end Go.Eng
