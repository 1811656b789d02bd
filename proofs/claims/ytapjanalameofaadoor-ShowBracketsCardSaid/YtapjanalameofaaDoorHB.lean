-- own work: an evaluator of the program's code, and what it answers
import Derived.Test.YtapjanalameofaaDoorTab
import Derived.Test.YtapjanalameofaaDoorEngC
import Derived.Test.YtapjanalameofaaDoorH3
import Derived.Test.YtapjanalameofaaDoorWellA
/- What is wrong with a term, by the reference; terms whose names are short. -/
set_option maxRecDepth 100000
set_option linter.unusedVariables false
set_option linter.unusedSimpArgs false
namespace Go.Eng
open Go Go.Proofs
def wantT (op : Int) : Int := if op = 5 ∨ op = 6 then 2 else if op = 7 ∨ op = 8 then 1 else 0
theorem want_iff {op : Int} (h : 1 ≤ op ∧ op ≤ 8) (n : Nat) : ((0 ≤ argsR op ∧ (n : Int) ≠ argsR op) ∨ 8 < n) ↔ ((op = 3 ∧ 8 < n) ∨ (op ≠ 3 ∧ (n : Int) ≠ wantT op)) := by
  have : op = 1 ∨ op = 2 ∨ op = 3 ∨ op = 4 ∨ op = 5 ∨ op = 6 ∨ op = 7 ∨ op = 8 := by omega
  rcases this with rfl | rfl | rfl | rfl | rfl | rfl | rfl | rfl <;> simp [argsR, wantT] <;> omega
set_option maxHeartbeats 16000000 in
theorem tparts_ev (t : Tm) (ht : okT t) (ro : Nat) (m : Mem) :
    evL Tryd.prog An ro 31 [.c (encT t)] m = some (.c (.v (.int .i64 (firstT t))), m) := by
  induction hd : SizeOf.sizeOf t using Nat.strongRecOn generalizing t ro m with
  | _ d ih =>
  have hlen := ht.len
  rw [maxLen_eq] at hlen
  have hfc := firstT_eq t
  refine evL_by (n := 110) (by kernel_rfl) rfl fn31 rfl rfl rfl rfl ?_
  by_cases h1 : t.op < 1 ∨ 8 < t.op
  · have e7 : firstT t = 7 := by rw [hfc, partE_bad (.inl h1)]; rfl
    rw [e7]
    have d1 : (t.op == 1) = false := beq_eq_false_iff_ne.2 (by omega)
    have d2 : (t.op == 2) = false := beq_eq_false_iff_ne.2 (by omega)
    have d3 : (t.op == 3) = false := beq_eq_false_iff_ne.2 (by omega)
    have d4 : (t.op == 4) = false := beq_eq_false_iff_ne.2 (by omega)
    have d8 : (t.op == 8) = false := beq_eq_false_iff_ne.2 (by omega)
    cases a1 : decide (t.op < 1) with
    | true => simp only [go_sem, ↓reduceIte, a1, d1, d2, d3, d4, d8]
    | false =>
      have n1 := of_decide_eq_false a1
      have a2 : decide (t.op > 8) = true := dec_t (by omega)
      simp only [go_sem, ↓reduceIte, a1, a2, d1, d2, d3, d4, d8]
  · have hop := range8 h1
    have h1' : 1 ≤ t.op ∧ t.op ≤ 8 := by omega
    by_cases hb : bad2 t.op (t.nu != 0) (t.nm.toList == ByteArray.empty.toList) = true ∨ (t.op = 2 ∧ t.nu < 0)
    · have e7 : firstT t = 7 := by
        rcases hb with hb | hb
        · rw [hfc, partE_bad2 hb]; rfl
        · rw [hfc, partE_bad (.inr hb)]; rfl
      rw [e7]
      clear hfc e7 ih
      have hb' : (bad2 t.op (t.nu != 0) (t.nm.toList == ByteArray.empty.toList) || (t.op == 2 && decide (t.nu < 0))) = true := by
        rcases hb with hb | hb
        · rw [hb]; rfl
        · rw [dec_t hb.2, hb.1]; simp
      clear hb
      generalize hnz : (t.nu != 0) = nz at hb'
      generalize hnq : (t.nm.toList == ByteArray.empty.toList) = nq at hb'
      generalize hng : decide (t.nu < 0) = ng at hb'
      rcases hop with e | e | e | e | e | e | e | e <;> rw [e] at hb' <;> cases nz <;> cases nq <;> cases ng <;> first | (exact absurd hb' (by decide)) | (simp only [go_sem, ↓reduceIte, e, hnz, hnq, hng, Int.reduceBNe, Int.reduceBEq, Int.reduceLT, Int.reduceGT, decide_false, decide_true])
    · have hb' : (bad2 t.op (t.nu != 0) (t.nm.toList == ByteArray.empty.toList) || (t.op == 2 && decide (t.nu < 0))) = false := by
        simp only [not_or] at hb
        rw [Bool.or_eq_false_iff]
        refine ⟨by simpa using hb.1, ?_⟩
        by_cases e : t.op = 2
        · rw [dec_f (fun h => hb.2 ⟨e, h⟩), Bool.and_false]
        · rw [beq_eq_false_iff_ne.2 e, Bool.false_and]
      simp only [not_or] at hb
      have hpe := partE_else (nm := t.nm) (nu := t.nu) (n := t.l.length) (fun h => h.elim h1 hb.2) (by simpa using hb.1)
      simp only [want_iff h1'] at hpe
      have hz0 := hfc
      rw [hpe] at hz0
      clear hpe hfc
      refine cut ⟨[.c (encT t), boxTerm t, .c (.v (.int .i64 0))] ++ List.replicate 107 .undef, [] :: m⟩ rfl (by simp only [go_sem, ↓reduceIte, upS_n, leL_nil, leL_cons, or_true, true_or, and_self]) ?_
      refine cut ⟨[.c (encT t), boxTerm t, .c (.v (.int .i64 0)), .c (.v (.bool (t.op == 1 || t.op == 3)))] ++ List.replicate 106 .undef, [] :: m⟩ rfl (by
        clear ih hz0 hb hb'
        rcases hop with e | e | e | e | e | e | e | e <;> simp only [go_sem, ↓reduceIte, e, Int.reduceBNe, Int.reduceBEq, Int.reduceLT, Int.reduceGT, decide_false, decide_true, Bool.true_or, Bool.or_true, Bool.or_false, Bool.false_or, Bool.or_self, upS_n, leL_nil, leL_cons, or_true, true_or, and_self]) ?_
      refine cut ⟨[.c (encT t), boxTerm t, .c (.v (.int .i64 0)), .c (.v (.bool (t.op == 1 || t.op == 3))), .c (.v (.bool (t.op == 2 || (t.op == 4 || t.op == 8))))] ++ List.replicate 105 .undef, [] :: m⟩ rfl (by
        clear ih hz0 hb hb'
        rcases hop with e | e | e | e | e | e | e | e <;> simp only [go_sem, ↓reduceIte, e, Int.reduceBNe, Int.reduceBEq, Int.reduceLT, Int.reduceGT, decide_false, decide_true, Bool.true_or, Bool.or_true, Bool.or_false, Bool.false_or, Bool.or_self, upS_n, leL_nil, leL_cons, or_true, true_or, and_self]) ?_
      refine cut ⟨[.c (encT t), boxTerm t, .c (.v (.int .i64 0))] ++ List.replicate 107 .undef, [] :: m⟩ rfl (by
        clear ih hz0 hb
        generalize hnz : (t.nu != 0) = nz at hb'
        generalize hnq : (t.nm.toList == ByteArray.empty.toList) = nq at hb'
        generalize hng : decide (t.nu < 0) = ng at hb'
        rcases hop with e | e | e | e | e | e | e | e <;> rw [e] at hb' <;> cases nz <;> cases nq <;> cases ng <;> first | (exact absurd hb' (by decide)) | (simp only [go_sem, ↓reduceIte, e, hnz, hnq, hng, Int.reduceBNe, Int.reduceBEq, Int.reduceLT, Int.reduceGT, decide_false, decide_true, Bool.true_or, Bool.or_true, Bool.or_false, Bool.false_or, Bool.or_self, upS_n, leL_nil, leL_cons, or_true, true_or, and_self])) ?_
      refine cut ⟨[.c (encT t), boxTerm t, .c (.v (.int .i64 0)), .undef, .undef, .c (.v (.int .i64 0))] ++ List.replicate 104 .undef, [] :: m⟩ rfl (by simp only [go_sem, ↓reduceIte, upS_n, leL_nil, leL_cons, or_true, true_or, and_self]) ?_
      refine cut ⟨[.c (encT t), boxTerm t, .c (.v (.int .i64 0)), .undef, .undef, .c (.v (.int .i64 (wantT t.op)))] ++ List.replicate 104 .undef, [] :: m⟩ rfl (by
        clear ih hz0 hb hb'
        rcases hop with e | e | e | e | e | e | e | e
        · rw [show wantT t.op = 0 by rw [e]; rfl]
          simp only [go_sem, ↓reduceIte, e, Int.reduceBNe, Int.reduceBEq, Int.reduceLT, Int.reduceGT, decide_false, decide_true, Bool.true_or, Bool.or_true, Bool.or_false, Bool.false_or, Bool.or_self, upS_n, leL_nil, leL_cons, or_true, true_or, and_self]
        · rw [show wantT t.op = 0 by rw [e]; rfl]
          simp only [go_sem, ↓reduceIte, e, Int.reduceBNe, Int.reduceBEq, Int.reduceLT, Int.reduceGT, decide_false, decide_true, Bool.true_or, Bool.or_true, Bool.or_false, Bool.false_or, Bool.or_self, upS_n, leL_nil, leL_cons, or_true, true_or, and_self]
        · rw [show wantT t.op = 0 by rw [e]; rfl]
          simp only [go_sem, ↓reduceIte, e, Int.reduceBNe, Int.reduceBEq, Int.reduceLT, Int.reduceGT, decide_false, decide_true, Bool.true_or, Bool.or_true, Bool.or_false, Bool.false_or, Bool.or_self, upS_n, leL_nil, leL_cons, or_true, true_or, and_self]
        · rw [show wantT t.op = 0 by rw [e]; rfl]
          simp only [go_sem, ↓reduceIte, e, Int.reduceBNe, Int.reduceBEq, Int.reduceLT, Int.reduceGT, decide_false, decide_true, Bool.true_or, Bool.or_true, Bool.or_false, Bool.false_or, Bool.or_self, upS_n, leL_nil, leL_cons, or_true, true_or, and_self]
        · rw [show wantT t.op = 2 by rw [e]; rfl]
          simp only [go_sem, ↓reduceIte, e, Int.reduceBNe, Int.reduceBEq, Int.reduceLT, Int.reduceGT, decide_false, decide_true, Bool.true_or, Bool.or_true, Bool.or_false, Bool.false_or, Bool.or_self, upS_n, leL_nil, leL_cons, or_true, true_or, and_self]
        · rw [show wantT t.op = 2 by rw [e]; rfl]
          simp only [go_sem, ↓reduceIte, e, Int.reduceBNe, Int.reduceBEq, Int.reduceLT, Int.reduceGT, decide_false, decide_true, Bool.true_or, Bool.or_true, Bool.or_false, Bool.false_or, Bool.or_self, upS_n, leL_nil, leL_cons, or_true, true_or, and_self]
        · rw [show wantT t.op = 1 by rw [e]; rfl]
          simp only [go_sem, ↓reduceIte, e, Int.reduceBNe, Int.reduceBEq, Int.reduceLT, Int.reduceGT, decide_false, decide_true, Bool.true_or, Bool.or_true, Bool.or_false, Bool.false_or, Bool.or_self, upS_n, leL_nil, leL_cons, or_true, true_or, and_self]
        · rw [show wantT t.op = 1 by rw [e]; rfl]
          simp only [go_sem, ↓reduceIte, e, Int.reduceBNe, Int.reduceBEq, Int.reduceLT, Int.reduceGT, decide_false, decide_true, Bool.true_or, Bool.or_true, Bool.or_false, Bool.false_or, Bool.or_self, upS_n, leL_nil, leL_cons, or_true, true_or, and_self]) ?_
      clear hb hb' hop
      generalize wantT t.op = w at hz0 ⊢
      by_cases h2 : (t.op = 3 ∧ 8 < t.l.length) ∨ (t.op ≠ 3 ∧ (t.l.length : Int) ≠ w)
      · rw [if_pos h2, if_pos (by decide)] at hz0
        rw [hz0]
        rcases h2 with ⟨e, h2⟩ | ⟨e, h2⟩
        · have d1 : (t.op == 3) = true := by simp [e]
          have d2 : decide ((t.l.length : Int) > 8) = true := dec_t (by omega)
          have d3 : (t.op != 3) = false := by simp [e]
          simp only [go_sem, ↓reduceIte, d1, d2, d3]
        · have d1 : (t.op == 3) = false := by simp [e]
          have d2 : ((t.l.length : Int) != w) = true := by simp [h2]
          have d3 : (t.op != 3) = true := by simp [e]
          simp only [go_sem, ↓reduceIte, d1, d2, d3]
      · rw [if_neg h2, if_neg (by decide)] at hz0
        simp only [not_or] at h2
        refine cut ⟨[.c (encT t), boxTerm t, .c (.v (.int .i64 0))] ++ List.replicate 107 .undef, [] :: m⟩ rfl (by
          by_cases e : t.op = 3
          · have d1 : (t.op == 3) = true := by simp [e]
            have d2 : decide ((t.l.length : Int) > 8) = false := dec_f (by have := fun h => h2.1 ⟨e, h⟩; omega)
            have d3 : (t.op != 3) = false := by simp [e]
            simp only [go_sem, ↓reduceIte, d1, d2, d3, upS_n, leL_nil, leL_cons, or_true, true_or, and_self]
          · have d1 : (t.op == 3) = false := by simp [e]
            have d2 : ((t.l.length : Int) != w) = false := bne_f (Decidable.byContradiction fun h => h2.2 ⟨e, h⟩)
            have d3 : (t.op != 3) = true := by simp [e]
            simp only [go_sem, ↓reduceIte, d1, d2, d3, upS_n, leL_nil, leL_cons, or_true, true_or, and_self]) ?_
        simp only [go_sem, ↓reduceIte]
        generalize hL : loopW _ _ = L
        obtain ⟨i, ⟨k1, k2⟩, hE, rfl⟩ := loopW_at hL (fun i : Nat => [(6, .c (.v (.int .i64 i)))]) (fun _ => [] :: m) (fun i => i ≤ t.l.length ∧ firstTs t.l = firstTs (t.l.drop i)) (fun i => i = t.l.length ∨ ∃ x, t.l[i]? = some x ∧ firstT x ≠ 0) (fun i => t.l.length - i) 0 rfl rfl ⟨by omega, by simp⟩ (by
          rintro i ⟨k1, k2⟩ hE
          simp only [not_or, not_exists, not_and] at hE
          obtain ⟨k3, k4⟩ := hE
          obtain ⟨x, hx⟩ : ∃ x, t.l[i]? = some x := ⟨_, List.getElem?_eq_getElem (by omega)⟩
          have c1 : decide ((i : Int) < (t.l.length : Int)) = true := dec_t (by omega)
          have c3 : IntKind.i64.wrap ((i : Int) + 1) = ((i + 1 : Nat) : Int) := wrap64 (by omega) (by omega)
          have hz : firstT x = 0 := by simpa using k4 x hx
          have hr := fun (ro : Nat) (m : Mem) => ih _ (by have := Tm.lt (List.mem_of_getElem? hx); omega) x (ht.arg (List.mem_of_getElem? hx)) ro m rfl
          rw [hz] at hr
          have c2 : ((0 : Int) != 0) = false := rfl
          refine ⟨i + 1, ⟨by omega, ?_⟩, by omega, ?_⟩
          · rw [k2, firstTs_drop _ _ _ hx, if_neg (by simp [hz])]
          · rw [round_go]
            simp only [go_sem, ↓reduceIte, c1, c2, c3, hx, hr])
        clear hL
        rw [loopW_go]
        by_cases hi : i = t.l.length
        · subst hi
          have c1 : decide ((t.l.length : Int) < (t.l.length : Int)) = false := dec_f (by omega)
          rw [hz0, k2, List.drop_length]
          simp only [go_sem, ↓reduceIte, c1, firstTs]
        · obtain ⟨x, hx, hz⟩ := hE.resolve_left hi
          have hil := (List.getElem?_eq_some_iff.1 hx).1
          have c1 : decide ((i : Int) < (t.l.length : Int)) = true := dec_t (by omega)
          have hr := fun (ro : Nat) (m : Mem) => ih _ (by have := Tm.lt (List.mem_of_getElem? hx); omega) x (ht.arg (List.mem_of_getElem? hx)) ro m rfl
          have c2 : (firstT x != 0) = true := by simpa using hz
          rw [hz0, k2, firstTs_drop _ _ _ hx, if_pos hz]
          simp only [go_sem, ↓reduceIte, c1, c2, hx, hr]
end Go.Eng
/- What is wrong with a term, by the reference; terms whose names are short. -/
set_option maxRecDepth 100000
set_option linter.unusedVariables false
set_option linter.unusedSimpArgs false
namespace Go.Eng
open Go Go.Proofs
set_option maxHeartbeats 4000000 in
theorem tall_ev (t : Tm) (ht : okT t) (k : Nat) (hk : 1 ≤ k) (hk2 : k ≤ 1000) (ro : Nat) (m : Mem) :
    evL Tryd.prog An ro 29 [.c (encT t), .c (.v (.int .i64 k))] m = some (.c (.v (.int .i64 (min (depT t) k : Nat))), m) := by
  induction hd : SizeOf.sizeOf t using Nat.strongRecOn generalizing t k ro m with
  | _ d ih =>
  have hlen := ht.len
  have hz := depT_eq t
  rw [maxLen_eq] at hlen
  refine evL_by (n := 31) (by kernel_rfl) rfl fn29 rfl rfl rfl rfl ?_
  by_cases h1 : k = 1
  · subst h1
    have d1 : decide (((1 : Nat) : Int) ≤ 1) = true := dec_t (by omega)
    have : min (depT t) 1 = 1 := by omega
    simp only [go_sem, ↓reduceIte, d1, this]
    rfl
  · have d1 : decide ((k : Int) ≤ 1) = false := dec_f (by omega)
    simp only [go_sem, ↓reduceIte, d1]
    generalize hL : loopW _ _ = L
    obtain ⟨i, k1, hE, rfl⟩ := loopW_at hL (fun i : Nat => [(5, .c (.v (.int .i64 (min (depTs (t.l.take i)) (k - 1) : Nat)))), (6, .c (.v (.int .i64 i)))]) (fun _ => [] :: m) (fun i => i ≤ t.l.length) (fun i => i = t.l.length) (fun i => t.l.length - i) 0
      (by simp [sets, depTs]) rfl (by omega) (by
      rintro i k1 hE
      obtain ⟨x, hx⟩ : ∃ x, t.l[i]? = some x := ⟨_, List.getElem?_eq_getElem (by omega)⟩
      have c1 : decide ((i : Int) < (t.l.length : Int)) = true := dec_t (by omega)
      have c3 : IntKind.i64.wrap ((i : Int) + 1) = ((i + 1 : Nat) : Int) := wrap64 (by omega) (by omega)
      have c4 : IntKind.i64.wrap ((k : Int) - 1) = ((k - 1 : Nat) : Int) := (wrap64 (by omega) (by omega)).trans (by omega)
      have hmem := List.mem_of_getElem? hx
      have hsub := fun ro m => ih _ (by have := Tm.lt hmem; omega) x (ht.arg hmem) (k - 1) (by omega) (by omega) ro m rfl
      have htk := depTs_take _ _ _ hx
      refine ⟨i + 1, by omega, by omega, ?_⟩
      rw [round_go]
      by_cases h2 : ((min (depT x) (k - 1) : Nat) : Int) > ((min (depTs (t.l.take i)) (k - 1) : Nat) : Int)
      · have c6 : decide (((min (depT x) (k - 1) : Nat) : Int) > ((min (depTs (t.l.take i)) (k - 1) : Nat) : Int)) = true := dec_t h2
        have c7 : min (depTs (t.l.take (i + 1))) (k - 1) = min (depT x) (k - 1) := by omega
        simp only [go_sem, ↓reduceIte, c1, c3, c4, c6, c7, hx, hsub]
      · have c6 : decide (((min (depT x) (k - 1) : Nat) : Int) > ((min (depTs (t.l.take i)) (k - 1) : Nat) : Int)) = false := dec_f h2
        have c7 : min (depTs (t.l.take (i + 1))) (k - 1) = min (depTs (t.l.take i)) (k - 1) := by omega
        simp only [go_sem, ↓reduceIte, c1, c3, c4, c6, c7, hx, hsub])
    clear hL
    subst hE
    rw [loopW_go]
    have c1 : decide ((t.l.length : Int) < (t.l.length : Int)) = false := dec_f (by omega)
    rw [List.take_length]
    have c5 : IntKind.i64.wrap (((min (depTs t.l) (k - 1) : Nat) : Int) + 1) = ((min (depT t) k : Nat) : Int) := (wrap64 (by omega) (by omega)).trans (by omega)
    simp only [go_sem, ↓reduceIte, c1, c5]
set_option maxHeartbeats 1000000 in
theorem rsize_ev (t : Tm) (ht : okT t) (n : Nat) (hn : n ≤ 100000) (ro : Nat) (m : Mem) :
    evL Tryd.prog An ro 30 [.c (encT t), .c (.v (.int .i64 n))] m = some (.c (.v (.int .i64 (min (sizeT t) (n + 1) : Nat))), m) := by
  induction hd : SizeOf.sizeOf t using Nat.strongRecOn generalizing t n ro m with
  | _ d ih =>
  have hlen := ht.len
  rw [maxLen_eq] at hlen
  refine evL_by (n := 31) (by kernel_rfl) rfl fn30 rfl rfl rfl rfl ?_
  simp only [go_sem, ↓reduceIte]
  generalize hL : loopW _ _ = L
  obtain ⟨i, hI, hE, rfl⟩ := loopW_at hL (fun i : Nat => [(5, .c (.v (.int .i64 (min (1 + sizeTs (t.l.take i)) (n + 1) : Nat)))), (6, .c (.v (.int .i64 i)))])
    (fun _ => [] :: m) (fun i => i ≤ t.l.length) (fun i => i = t.l.length ∨ n < 1 + sizeTs (t.l.take i)) (fun i => t.l.length - i) 0 (by simp [sets, sizeTs]) rfl (by omega) (by
    rintro i h1 hE
    simp only [not_or, Nat.not_lt] at hE
    obtain ⟨h2, h3⟩ := hE
    obtain ⟨x, hx⟩ : ∃ x, t.l[i]? = some x := ⟨_, List.getElem?_eq_getElem (by omega)⟩
    have c1 : decide ((i : Int) < (t.l.length : Int)) = true := dec_t (by omega)
    have c2 : decide (((min (1 + sizeTs (t.l.take i)) (n + 1) : Nat) : Int) ≤ (n : Int)) = true := dec_t (by omega)
    have c3 : IntKind.i64.wrap ((i : Int) + 1) = ((i + 1 : Nat) : Int) := wrap64 (by omega) (by omega)
    have c4 : IntKind.i64.wrap ((n : Int) - ((min (1 + sizeTs (t.l.take i)) (n + 1) : Nat) : Int)) = ((n - (1 + sizeTs (t.l.take i)) : Nat) : Int) := (wrap64 (by omega) (by omega)).trans (by omega)
    have hmem : x ∈ t.l := List.mem_of_getElem? hx
    have hc := fun ro m => ih _ (by have := Tm.lt hmem; omega) x (ht.arg hmem) (n - (1 + sizeTs (t.l.take i))) (by omega) ro m rfl
    have hs := sizeTs_take _ _ _ hx
    have c5 : IntKind.i64.wrap (((min (1 + sizeTs (t.l.take i)) (n + 1) : Nat) : Int) + ((min (sizeT x) (n - (1 + sizeTs (t.l.take i)) + 1) : Nat) : Int)) = ((min (1 + sizeTs (t.l.take (i + 1))) (n + 1) : Nat) : Int) := (wrap64 (by omega) (by omega)).trans (by omega)
    refine ⟨i + 1, by omega, by omega, ?_⟩
    rw [round_go]
    simp only [go_sem, ↓reduceIte, c1, c2, c3, c4, hx, hc, c5])
  clear hL
  have hle := sizeTs_le t.l i
  have hz := sizeT_eq t
  rw [loopW_go]
  by_cases hi : i = t.l.length
  · subst hi
    have c1 : decide ((t.l.length : Int) < (t.l.length : Int)) = false := dec_f (by omega)
    simp only [go_sem, ↓reduceIte, c1]
    rw [List.take_length, ← hz]
  · have c1 : decide ((i : Int) < (t.l.length : Int)) = true := dec_t (by omega)
    have c2 : decide (((min (1 + sizeTs (t.l.take i)) (n + 1) : Nat) : Int) ≤ (n : Int)) = false := dec_f (by omega)
    simp only [go_sem, ↓reduceIte, c1, c2]
    have : min (1 + sizeTs (t.l.take i)) (n + 1) = min (sizeT t) (n + 1) := by omega
    rw [this]
set_option maxHeartbeats 4000000 in
theorem tRight_ev (t : Tm) (ht : okT t) (ro : Nat) (m : Mem) : evL Tryd.prog An ro 10 [.c (encT t)] m = some (.c (.v (.int .i64 (rightT t))), m) := by
  refine evL_by (n := 11) (by kernel_rfl) rfl fn10 rfl rfl rfl rfl ?_
  have hd := fun ro m => tall_ev t ht 65 (by omega) (by omega) ro m
  have hs := fun ro m => rsize_ev t ht 4096 (by omega) ro m
  have hp := fun ro m => tparts_ev t ht ro m
  have e1 : ((65 : Nat) : Int) = 65 := rfl
  have e2 : ((4096 : Nat) : Int) = 4096 := rfl
  simp only [e1] at hd
  simp only [e2] at hs
  unfold rightT
  by_cases h1 : 64 < depT t
  · have d1 : decide (((min (depT t) 65 : Nat) : Int) > 64) = true := dec_t (by omega)
    simp only [go_sem, ↓reduceIte, hd, d1, if_pos h1]
  · have d1 : decide (((min (depT t) 65 : Nat) : Int) > 64) = false := dec_f (by omega)
    by_cases h2 : 4096 < sizeT t
    · have d2 : decide (((min (sizeT t) (4096 + 1) : Nat) : Int) > 4096) = true := dec_t (by omega)
      simp only [go_sem, ↓reduceIte, hd, hs, d1, d2, if_neg h1, if_pos h2]
    · have d2 : decide (((min (sizeT t) (4096 + 1) : Nat) : Int) > 4096) = false := dec_f (by omega)
      simp only [go_sem, ↓reduceIte, hd, hs, hp, d1, d2, if_neg h1, if_neg h2]
set_option maxHeartbeats 4000000 in
theorem short_ev (t : Tm) (ht : okT t) (ro : Nat) (m : Mem) (hro : ro ≤ m.length) : evL Tryd.prog An ro 11 [.c (encT t)] m = some (.c (.v (.bool (shortT t))), m) := by
  induction hd : SizeOf.sizeOf t using Nat.strongRecOn generalizing t ro m with
  | _ d ih =>
  have hlen := ht.len
  rw [maxLen_eq] at hlen
  have hro1 : ro ≤ m.length + 1 := by omega
  refine evL_by (n := 20) (by kernel_rfl) rfl fn11 rfl rfl rfl rfl ?_
  simp only [go_sem, ↓reduceIte]
  generalize hL : loopW _ _ = L
  obtain ⟨i, ⟨k1, k2⟩, hE, rfl⟩ := loopW_at hL (fun i : Nat => [(8, .c (.v (.int .i64 i)))]) (fun _ => [] :: m) (fun i => i ≤ t.l.length ∧ (t.l.take i).all shortT = true) (fun i => i = t.l.length ∨ ∃ x, t.l[i]? = some x ∧ shortT x = false) (fun i => t.l.length - i) 0 rfl rfl ⟨by omega, by simp⟩ (by
    rintro i ⟨k1, k2⟩ hE
    simp only [not_or, not_exists, not_and] at hE
    obtain ⟨e1, e2⟩ := hE
    obtain ⟨x, hx⟩ : ∃ x, t.l[i]? = some x := ⟨_, List.getElem?_eq_getElem (by omega)⟩
    have d1 : decide ((i : Int) < (t.l.length : Int)) = true := dec_t (by omega)
    have d2 : shortT x = true := by simpa using e2 x hx
    have d3 : IntKind.i64.wrap ((i : Int) + 1) = ((i + 1 : Nat) : Int) := wrap64 (by omega) (by omega)
    have hr := fun ro m hro => ih _ (by have := Tm.lt (List.mem_of_getElem? hx); omega) x (ht.arg (List.mem_of_getElem? hx)) ro m hro rfl
    rw [d2] at hr
    refine ⟨i + 1, ⟨by omega, ?_⟩, by omega, ?_⟩
    · rw [List.take_add_one, hx, List.all_append, k2]; simp [d2]
    rw [round_go]
    simp only [go_sem, ↓reduceIte, d1, d3, hx, hr, hro, hro1])
  clear hL
  rw [loopW_go, shortT_eq]
  by_cases hi : i = t.l.length
  · subst hi
    rw [List.take_length] at k2
    have d1 : decide ((t.l.length : Int) < (t.l.length : Int)) = false := dec_f (by omega)
    have d2 : decide ((t.nm.size : Int) ≤ 100) = decide (t.nm.size ≤ 100) := by
      by_cases h : t.nm.size ≤ 100
      · rw [dec_t h, dec_t (by omega)]
      · rw [dec_f h, dec_f (by omega)]
    simp only [go_sem, ↓reduceIte, d1, d2, k2]
  · obtain ⟨x, hx, hz⟩ := hE.resolve_left hi
    have hil := (List.getElem?_eq_some_iff.1 hx).1
    have d1 : decide ((i : Int) < (t.l.length : Int)) = true := dec_t (by omega)
    have hr := fun ro m hro => ih _ (by have := Tm.lt (List.mem_of_getElem? hx); omega) x (ht.arg (List.mem_of_getElem? hx)) ro m hro rfl
    rw [hz] at hr
    have d2 : t.l.all shortT = false := by
      rw [List.all_eq_false]
      exact ⟨x, List.mem_of_getElem? hx, by simp [hz]⟩
    simp only [go_sem, ↓reduceIte, d1, d2, hx, hr, hro, hro1]
end Go.Eng
/- What terms look like: the program and the reference. -/
set_option maxRecDepth 100000
set_option linter.unusedVariables false
set_option linter.unusedSimpArgs false
namespace Go.Eng
open Go Go.Proofs
theorem snoc_S (bs : List ByteArray) (x : ByteArray) : List.map cS bs ++ [C.v (.string x)] = List.map cS (bs ++ [x]) := by simp [cS]
def lparB : ByteArray := ⟨#[40]⟩
def rparB : ByteArray := ⟨#[41]⟩
def tickB : ByteArray := ⟨#[39]⟩
def plusB : ByteArray := ⟨#[32, 43, 32]⟩
def minusB : ByteArray := ⟨#[32, 45, 32]⟩
def negB : ByteArray := ⟨#[45]⟩
def timesB : ByteArray := ⟨#[32, 42, 32]⟩
theorem e_lpar : ({ data := #[40] } : ByteArray) = lparB := rfl
theorem e_rpar : ({ data := #[41] } : ByteArray) = rparB := rfl
theorem e_tick : ({ data := #[39] } : ByteArray) = tickB := rfl
theorem e_plus : ({ data := #[32, 43, 32] } : ByteArray) = plusB := rfl
theorem e_minus : ({ data := #[32, 45, 32] } : ByteArray) = minusB := rfl
theorem e_neg : ({ data := #[45] } : ByteArray) = negB := rfl
theorem e_times : ({ data := #[32, 42, 32] } : ByteArray) = timesB := rfl
theorem e_comma : ({ data := #[44, 32] } : ByteArray) = commaB := rfl
theorem z_lpar : lparB.size = 1 := rfl
theorem z_rpar : rparB.size = 1 := rfl
theorem z_tick : tickB.size = 1 := rfl
theorem z_plus : plusB.size = 3 := rfl
theorem z_minus : minusB.size = 3 := rfl
theorem z_neg : negB.size = 1 := rfl
theorem z_times : timesB.size = 3 := rfl
theorem z_comma : commaB.size = 2 := rfl
attribute [go_sem] e_lpar e_rpar e_tick e_plus e_minus e_neg e_times e_comma
/-! ### the pieces -/
set_option maxHeartbeats 1000000 in
theorem sarg_ev (t : Tm) (ht : okT t) (i : Nat) (hi : i ≤ 1000) (ro : Nat) (m : Mem) (hro : ro ≤ m.length) : evL Tryd.prog An ro 51 [.c (encT t), .c (.v (.int .i64 i))] m = some (.c (encT (t.l.getD i t0)), m) := by
  refine evL_by (n := 16) (by kernel_rfl) rfl fn51 rfl rfl rfl rfl ?_
  have hro1 : ro ≤ m.length + 1 := by omega
  by_cases h : i < t.l.length
  · obtain ⟨x, hx⟩ : ∃ x, t.l[i]? = some x := ⟨_, List.getElem?_eq_getElem h⟩
    have c1 : decide ((i : Int) < (t.l.length : Int)) = true := dec_t (by omega)
    have c2 : t.l.getD i t0 = x := by rw [List.getD_eq_getElem?_getD, hx]; rfl
    simp only [go_sem, ↓reduceIte, c1, c2, hx, hro, hro1]
  · have c1 : decide ((i : Int) < (t.l.length : Int)) = false := dec_f (by omega)
    have c2 : t.l.getD i t0 = t0 := by rw [List.getD_eq_getElem?_getD, List.getElem?_eq_none (by omega)]; rfl
    rw [c2, t0, encT_mk]
    simp only [go_sem, ↓reduceIte, c1, hro, hro1]
    rfl
set_option maxHeartbeats 1000000 in
theorem ssum_ev (t : Tm) (ro : Nat) (m : Mem) : evL Tryd.prog An ro 54 [.c (encT t)] m = some (.c (.v (.bool (sumB t))), m) := by
  refine evL_by (n := 11) (by kernel_rfl) rfl fn54 rfl rfl rfl rfl ?_
  unfold sumB
  cases d5 : (t.op == 5) <;> cases d6 : (t.op == 6) <;> simp only [go_sem, ↓reduceIte, d5, d6]
set_option maxHeartbeats 1000000 in
theorem rsum_ev (t : Tm) (ro : Nat) (m : Mem) : evL Tryd.prog An ro 59 [.c (encT t)] m = some (.c (.v (.bool (sumB t))), m) := by
  refine evL_by (n := 11) (by kernel_rfl) rfl fn59 rfl rfl rfl rfl ?_
  unfold sumB
  cases d5 : (t.op == 5) <;> cases d6 : (t.op == 6) <;> simp only [go_sem, ↓reduceIte, d5, d6]
set_option maxHeartbeats 1000000 in
theorem rlow_ev (t : Tm) (ro : Nat) (m : Mem) : evL Tryd.prog An ro 77 [.c (encT t)] m = some (.c (.v (.bool (lowT t))), m) := by
  refine evL_by (n := 11) (by kernel_rfl) rfl fn77 rfl rfl rfl rfl ?_
  unfold lowT
  cases d4 : (t.op == 4) <;> cases d5 : decide (t.nu < 0) <;> simp only [go_sem, ↓reduceIte, d4, d5]
set_option maxHeartbeats 1000000 in
theorem brackets_ev (x : ByteArray) (hx : x.size ≤ 1000000000) (ro : Nat) (m : Mem) : evL Tryd.prog An ro 56 [.c (.v (.string x))] m = some (.c (.v (.string ((lparB ++ x) ++ rparB))), m) := by
  refine evL_by (n := 6) (by kernel_rfl) rfl fn56 rfl rfl rfl rfl ?_
  have z1 := z_lpar
  have z2 := z_rpar
  have c1 : lparB.size + x.size ≤ 9223372036854775807 := by omega
  have c2 : lparB.size + x.size + rparB.size ≤ 9223372036854775807 := by omega
  simp only [go_sem, ↓reduceIte, c1, c2]
theorem sideX_eq (t : Tm) (x : ByteArray) (br : Bool) : sideX t x br = if (br || lowT t) = true then (lparB ++ x) ++ rparB else x := rfl
set_option maxHeartbeats 1000000 in
theorem sside_of (t : Tm) (ns : List C) (br : Bool) (x : ByteArray) (hx : x.size ≤ 1000000000)
    (h : ∀ ro m, ro ≤ m.length → evL Tryd.prog An ro 32 [.c (encT t), .c (.sl ns)] m = some (.c (.v (.string x)), m)) (ro : Nat) (m : Mem) (hro : ro ≤ m.length) :
    evL Tryd.prog An ro 53 [.c (encT t), .c (.sl ns), .c (.v (.bool br))] m = some (.c (.v (.string (sideX t x br))), m) := by
  refine evL_by (n := 26) (by kernel_rfl) rfl fn53 rfl rfl rfl rfl ?_
  have hro1 : ro ≤ m.length + 1 := by omega
  have z1 := z_lpar
  have z2 := z_rpar
  have c1 : lparB.size + x.size ≤ 9223372036854775807 := by omega
  have c2 : lparB.size + x.size + rparB.size ≤ 9223372036854775807 := by omega
  rw [sideX_eq]
  unfold lowT
  cases br <;> cases d4 : (t.op == 4) <;> cases d5 : decide (t.nu < 0) <;> simp only [go_sem, ↓reduceIte, d4, d5, h, hro, hro1, c1, c2]
set_option maxHeartbeats 1000000 in
theorem rside_of (t : Tm) (ns : List C) (br : Bool) (x : ByteArray) (hx : x.size ≤ 1000000000)
    (h : ∀ ro m, ro ≤ m.length → evL Tryd.prog An ro 33 [.c (encT t), .c (.sl ns)] m = some (.c (.v (.string x)), m)) (ro : Nat) (m : Mem) (hro : ro ≤ m.length) :
    evL Tryd.prog An ro 58 [.c (encT t), .c (.sl ns), .c (.v (.bool br))] m = some (.c (.v (.string (sideX t x br))), m) := by
  refine evL_by (n := 19) (by kernel_rfl) rfl fn58 rfl rfl rfl rfl ?_
  have hro1 : ro ≤ m.length + 1 := by omega
  have hl := fun ro m => rlow_ev t ro m
  have hb := fun ro m => brackets_ev x hx ro m
  rw [sideX_eq]
  cases br <;> cases d4 : lowT t <;> simp only [go_sem, ↓reduceIte, d4, hl, hb, h, hro, hro1]
set_option maxHeartbeats 2000000 in
theorem sapply_of (nm : ByteArray) (hnm : nm.size ≤ 100) (l : List Tm) (ns : List C) (f : Tm → ByteArray) (hl : l.length ≤ 100000) (hs : sumX (l.map f) ≤ 1000000000)
    (h : ∀ x ∈ l, ∀ ro m, ro ≤ m.length → evL Tryd.prog An ro 32 [.c (encT x), .c (.sl ns)] m = some (.c (.v (.string (f x))), m)) (ro : Nat) (m : Mem) (hro : ro ≤ m.length) :
    evL Tryd.prog An ro 55 [.c (.v (.string nm)), .c (.sl (l.map encT)), .c (.sl ns)] m = some (.c (.v (.string (if l.length = 0 then nm else ((nm ++ lparB) ++ joinX (l.map f)) ++ rparB))), m) := by
  refine evL_by (n := 33) (by kernel_rfl) rfl fn55 rfl rfl rfl rfl ?_
  have hro1 : ro ≤ m.length + 1 := by omega
  by_cases h0 : l.length = 0
  · have c1 : ((l.length : Int) == 0) = true := by simp [h0]
    rw [if_pos h0]
    simp only [go_sem, ↓reduceIte, c1]
  rw [if_neg h0]
  have c1 : ((l.length : Int) == 0) = false := by rw [beq_eq_false_iff_ne]; omega
  simp only [go_sem, ↓reduceIte, c1]
  generalize hL : loopW _ _ = L
  obtain ⟨i, k1, hE, rfl⟩ := loopW_at hL (fun i : Nat => [(7, .tip (if i = 0 then none else some 1) (((l.take i).map f).map cS)), (16, .c (.v (.int .i64 i)))]) (fun _ => [] :: m) (fun i => i ≤ l.length) (fun i => i = l.length) (fun i => l.length - i) 0 rfl rfl (by omega) (by
    rintro i k1 hE
    obtain ⟨x, hx⟩ : ∃ x, l[i]? = some x := ⟨_, List.getElem?_eq_getElem (by omega)⟩
    have d1 : decide ((i : Int) < (l.length : Int)) = true := dec_t (by omega)
    have d3 : IntKind.i64.wrap ((i : Int) + 1) = ((i + 1 : Nat) : Int) := wrap64 (by omega) (by omega)
    have hc := h x (List.mem_of_getElem? hx)
    have e1 : (l.take (i + 1)).map f = (l.take i).map f ++ [f x] := by rw [List.take_add_one, hx]; simp
    have e2 : ((l.take i).map f).length = i := by rw [List.length_map, List.length_take]; omega
    have c5 : (((l.take i).map f).length + 1) * 16 ≤ 140737488355328 := by omega
    have c6 : ((l.take i).map f).length + 1 ≤ 9223372036854775807 := by omega
    have c7 : (i + 1 = 0) = False := by simp
    refine ⟨i + 1, by omega, by omega, ?_⟩
    have hos : (if i = 0 then none else some 1 : Option Nat) = none ∨ (if i = 0 then none else some 1 : Option Nat) = some 1 := by split <;> simp
    rw [round_go, e1]
    generalize (if i = 0 then none else some 1 : Option Nat) = os at hos ⊢
    generalize (l.take i).map f = out at c5 c6 ⊢
    simp only [go_sem, ↓reduceIte, d1, d3, c5, c6, c7, hos, hx, hc, snoc_S, hro1, hro])
  clear hL
  subst hE
  rw [loopW_go, List.take_length]
  have d1 : decide ((l.length : Int) < (l.length : Int)) = false := dec_f (by omega)
  have hz := joinX_size (l.map f)
  have hj := fun ro m => join_ev (l.map f) (by rw [List.length_map]; omega) (by omega) ro m
  rw [e_comma] at hj
  have z1 := z_lpar
  have z2 := z_rpar
  have c2 : nm.size + lparB.size ≤ 9223372036854775807 := by omega
  have c3 : nm.size + lparB.size + (joinX (l.map f)).size ≤ 9223372036854775807 := by omega
  have c4 : nm.size + lparB.size + (joinX (l.map f)).size + rparB.size ≤ 9223372036854775807 := by omega
  generalize (if l.length = 0 then none else some 1 : Option Nat) = os
  simp only [go_sem, ↓reduceIte, d1, hj, c2, c3, c4]
set_option maxHeartbeats 2000000 in
theorem rlist_of (l : List Tm) (ns : List C) (f : Tm → ByteArray) (hl : l.length ≤ 100000) (hs : sumX (l.map f) ≤ 1000000000)
    (h : ∀ x ∈ l, ∀ ro m, ro ≤ m.length → evL Tryd.prog An ro 33 [.c (encT x), .c (.sl ns)] m = some (.c (.v (.string (f x))), m)) (ro : Nat) (m : Mem) (hro : ro ≤ m.length) :
    evL Tryd.prog An ro 57 [.c (.sl (l.map encT)), .c (.sl ns)] m = some (.c (.v (.string (joinX (l.map f)))), m) := by
  refine evL_by (n := 26) (by kernel_rfl) rfl fn57 rfl rfl rfl rfl ?_
  have hro1 : ro ≤ m.length + 1 := by omega
  simp only [go_sem, ↓reduceIte]
  generalize hL : loopW _ _ = L
  obtain ⟨i, k1, hE, rfl⟩ := loopW_at hL (fun i : Nat => [(5, .c (.v (.string (joinX ((l.map f).take i))))), (6, .c (.v (.int .i64 i)))]) (fun _ => [] :: m) (fun i => i ≤ l.length) (fun i => i = l.length) (fun i => l.length - i) 0 rfl rfl (by omega) (by
    rintro i k1 hE
    obtain ⟨x, hx⟩ : ∃ x, l[i]? = some x := ⟨_, List.getElem?_eq_getElem (by omega)⟩
    have hx' : (l.map f)[i]? = some (f x) := by rw [List.getElem?_map, hx]; rfl
    have d1 : decide ((i : Int) < (l.length : Int)) = true := dec_t (by omega)
    have d3 : IntKind.i64.wrap ((i : Int) + 1) = ((i + 1 : Nat) : Int) := wrap64 (by omega) (by omega)
    have hc := h x (List.mem_of_getElem? hx)
    have q0 := sumX_take (l.map f) i
    have q1 := joinX_size ((l.map f).take i)
    have q3 : sumX ((l.map f).take (i + 1)) = sumX ((l.map f).take i) + ((f x).size + 4) := by rw [List.take_add_one, hx']; exact sumX_snoc _ _
    have q4 := sumX_take (l.map f) (i + 1)
    have z5 := z_comma
    refine ⟨i + 1, by omega, by omega, ?_⟩
    rw [round_go]
    by_cases h0 : i = 0
    · subst h0
      have d2 : decide (((0 : Nat) : Int) > 0) = false := dec_f (by omega)
      have d4 : joinX ((l.map f).take (0 + 1)) = ByteArray.empty ++ f x := by
        rw [List.take_add_one, hx', cat_empty]; rfl
      have d6 : joinX [] = ByteArray.empty := rfl
      have d5 : ByteArray.empty.size + (f x).size ≤ 9223372036854775807 := by
        have : ByteArray.empty.size = 0 := rfl
        omega
      simp only [d4]
      simp only [go_sem, ↓reduceIte, d1, d2, d3, d5, d6, hx, hc, hro, hro1]
    · have d2 : decide ((i : Int) > 0) = true := dec_t (by omega)
      have d4 : joinX ((l.map f).take (i + 1)) = (joinX ((l.map f).take i) ++ commaB) ++ f x := joinX_take _ _ _ hx' h0
      have d5 : (joinX ((l.map f).take i)).size + commaB.size ≤ 9223372036854775807 := by omega
      have d6 : (joinX ((l.map f).take i)).size + commaB.size + (f x).size ≤ 9223372036854775807 := by omega
      simp only [d4]
      generalize joinX ((l.map f).take i) = out at d5 d6 ⊢
      simp only [go_sem, ↓reduceIte, d1, d2, d3, d5, d6, hx, hc, hro, hro1])
  clear hL
  subst hE
  have e1 : (l.map f).take l.length = l.map f := List.take_of_length_le (by simp)
  rw [loopW_go]
  have d1 : decide ((l.length : Int) < (l.length : Int)) = false := dec_f (by omega)
  simp only [e1]
  generalize joinX (l.map f) = out
  simp only [go_sem, ↓reduceIte, d1]
end Go.Eng
