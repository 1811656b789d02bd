-- own work: an evaluator of the program's code, and what it answers
import Derived.Test.YtdmoipccmbimhaaGreatDoorTab
set_option maxRecDepth 100000
set_option linter.unusedVariables false
set_option linter.unusedSimpArgs false
namespace Go.Eng
open Go Go.Proofs
set_option maxHeartbeats 1000000 in
theorem size_ev (t : Tm) (ht : okT t) (n : Nat) (hn : n ≤ 100000) (ro : Nat) (m : Mem) :
    evL Tryz.prog An ro 21 [.c (encT t), .c (.v (.int .i64 n))] m = some (.c (.v (.int .i64 (min (sizeT t) (n + 1) : Nat))), m) := by
  induction hd : SizeOf.sizeOf t using Nat.strongRecOn generalizing t n ro m with
  | _ d ih =>
  have hlen := ht.len
  rw [maxLen_eq] at hlen
  refine evL_by (n := 31) (by kernel_rfl) rfl fn21 rfl rfl rfl rfl ?_
  simp only [go_sem, ↓reduceIte]
  generalize hL : loopW _ _ = L
  obtain ⟨i, hI, hE, rfl⟩ := loopW_at hL (fun i : Nat => [(5, .c (.v (.int .i64 (min (1 + sizeTs (t.l.take i)) (n + 1) : Nat)))), (6, .c (.v (.int .i64 i)))])
    (fun _ => [] :: m) (fun i => i ≤ t.l.length) (fun i => i = t.l.length ∨ n < 1 + sizeTs (t.l.take i)) (fun i => t.l.length - i) 0 (by simp [sets, sizeTs]) rfl (by omega) (by
    rintro i h1 hE
    simp only [not_or, Nat.not_lt] at hE
    obtain ⟨h2, h3⟩ := hE
    obtain ⟨x, hx⟩ : ∃ x, t.l[i]? = some x := ⟨_, List.getElem?_eq_getElem (by omega)⟩
    have c1 : decide ((i : Int) < (t.l.length : Int)) = true := dec_t (by omega)
    have c2 : decide (((min (1 + sizeTs (t.l.take i)) (n + 1) : Nat) : Int) ≤ (n : Int)) = true := dec_t (by omega)
    have c3 : IntKind.i64.wrap ((i : Int) + 1) = ((i + 1 : Nat) : Int) := wrap64 (by omega) (by omega)
    have c4 : IntKind.i64.wrap ((n : Int) - ((min (1 + sizeTs (t.l.take i)) (n + 1) : Nat) : Int)) = ((n - (1 + sizeTs (t.l.take i)) : Nat) : Int) := (wrap64 (by omega) (by omega)).trans (by omega)
    have hmem : x ∈ t.l := List.mem_of_getElem? hx
    have hc := fun ro m => ih _ (by have := Tm.lt hmem; omega) x (ht.arg hmem) (n - (1 + sizeTs (t.l.take i))) (by omega) ro m rfl
    have hs := sizeTs_take _ _ _ hx
    have c5 : IntKind.i64.wrap (((min (1 + sizeTs (t.l.take i)) (n + 1) : Nat) : Int) + ((min (sizeT x) (n - (1 + sizeTs (t.l.take i)) + 1) : Nat) : Int)) = ((min (1 + sizeTs (t.l.take (i + 1))) (n + 1) : Nat) : Int) := (wrap64 (by omega) (by omega)).trans (by omega)
    refine ⟨i + 1, by omega, by omega, ?_⟩
    rw [round_go]
    simp only [go_sem, ↓reduceIte, c1, c2, c3, c4, hx, hc, c5])
  clear hL
  have hle := sizeTs_le t.l i
  have hz := sizeT_eq t
  rw [loopW_go]
  by_cases hi : i = t.l.length
  · subst hi
    have c1 : decide ((t.l.length : Int) < (t.l.length : Int)) = false := dec_f (by omega)
    simp only [go_sem, ↓reduceIte, c1]
    rw [List.take_length, ← hz]
  · have c1 : decide ((i : Int) < (t.l.length : Int)) = true := dec_t (by omega)
    have c2 : decide (((min (1 + sizeTs (t.l.take i)) (n + 1) : Nat) : Int) ≤ (n : Int)) = false := dec_f (by omega)
    simp only [go_sem, ↓reduceIte, c1, c2]
    have : min (1 + sizeTs (t.l.take i)) (n + 1) = min (sizeT t) (n + 1) := by omega
    rw [this]
end Go.Eng
set_option maxRecDepth 100000
set_option linter.unusedVariables false
set_option linter.unusedSimpArgs false
namespace Go.Eng
open Go Go.Proofs
def fewL : Int → List Nat → Int
  | x, [] => x
  | x, a :: r => if x ≤ 400 then fewL (IntKind.i64.wrap (x + a)) r else x
def few (s : Sg) (vs : List Va) : Bool := decide (fewL (IntKind.i64.wrap (IntKind.i64.wrap ((s.sorts.length : Int) + s.funs.length) + vs.length)) (s.funs.map fun f => f.args.length) ≤ 400)
set_option maxHeartbeats 1000000 in
theorem few_ev (s : Sg) (vs : List Va) (hs : okS s) (ro : Nat) (m : Mem) : evL Tryz.prog An ro 30 [.c (encS s), .c (.sl (vs.map encV))] m = some (.c (.v (.bool (few s vs))), m) := by
  have hlen := hs.funs
  rw [maxLen_eq] at hlen
  refine evL_by (n := 39) (by kernel_rfl) rfl fn30 rfl rfl rfl rfl ?_
  simp only [go_sem, ↓reduceIte]
  generalize hx0 : IntKind.i64.wrap (IntKind.i64.wrap ((s.sorts.length : Int) + s.funs.length) + vs.length) = x0
  generalize hL : loopW _ _ = L
  obtain ⟨⟨i, x⟩, ⟨h1, h2⟩, hE, rfl⟩ := loopW_at hL (fun (q : Nat × Int) => [(5, .c (.v (.int .i64 q.2))), (6, .c (.v (.int .i64 q.1)))]) (fun _ => [] :: m)
    (fun q => q.1 ≤ s.funs.length ∧ fewL q.2 ((s.funs.drop q.1).map fun f => f.args.length) = fewL x0 (s.funs.map fun f => f.args.length)) (fun q => q.1 = s.funs.length ∨ 400 < q.2) (fun q => s.funs.length - q.1) (0, x0) rfl rfl ⟨by simp, by simp⟩ (by
    rintro ⟨i, x⟩ ⟨h1, h2⟩ hE
    simp only [not_or, Int.not_lt] at hE h1 h2
    obtain ⟨h3, h4⟩ := hE
    obtain ⟨f, hf⟩ : ∃ f, s.funs[i]? = some f := ⟨_, List.getElem?_eq_getElem (by omega)⟩
    have c1 : decide ((i : Int) < (s.funs.length : Int)) = true := dec_t (by omega)
    have c2 : decide (x ≤ 400) = true := dec_t h4
    have c3 : IntKind.i64.wrap ((i : Int) + 1) = ((i + 1 : Nat) : Int) := wrap64 (by omega) (by omega)
    refine ⟨(i + 1, IntKind.i64.wrap (x + f.args.length)), ⟨by simp only; omega, ?_⟩, by simp only; omega, ?_⟩
    · rw [← h2]
      have : s.funs.drop i = f :: s.funs.drop (i + 1) := by rw [List.drop_eq_getElem_cons (by omega)]; congr 1; exact (List.getElem?_eq_some_iff.1 hf).2
      simp only [this, List.map_cons, fewL, if_pos h4]
    · rw [round_go]
      simp only [go_sem, ↓reduceIte, c1, c2, c3, hf])
  clear hL
  simp only at h1 h2 hE
  rw [loopW_go]
  have key : fewL x0 (s.funs.map fun f => f.args.length) = x := by
    rw [← h2]
    rcases hE with rfl | hE
    · simp [fewL]
    · cases (s.funs.drop i).map (fun f => f.args.length) with
      | nil => rfl
      | cons a r => rw [fewL, if_neg (by omega)]
  unfold few
  rw [hx0, key]
  by_cases hi : i = s.funs.length
  · subst hi
    have c1 : decide ((s.funs.length : Int) < (s.funs.length : Int)) = false := dec_f (by omega)
    simp only [go_sem, ↓reduceIte, c1]
  · have hx : 400 < x := by rcases hE with h | h; exact absurd h hi; exact h
    have c1 : decide ((i : Int) < (s.funs.length : Int)) = true := dec_t (by omega)
    have c2 : decide (x ≤ 400) = false := dec_f (by omega)
    simp only [go_sem, ↓reduceIte, c1, c2]
end Go.Eng
set_option maxRecDepth 100000
set_option linter.unusedVariables false
set_option linter.unusedSimpArgs false
namespace Go.Eng
open Go Go.Proofs
set_option maxHeartbeats 8000000 in
theorem weight_ev (c : Cl) (hc : okC c) (k : Nat) (hk : k ≤ 10000) (ro : Nat) (m : Mem) (hro : ro ≤ m.length) :
    evL Tryz.prog An ro 59 [.c (encC c), .c (.v (.int .i64 k))] m = some (.c (.v (.int .i64 (min (sizeC c) (k + 1) : Nat))), m) := by
  induction hd : SizeOf.sizeOf c using Nat.strongRecOn generalizing c k ro m with
  | _ d ih =>
  have hts := hc.len.1
  have hss := hc.len.2
  rw [maxLen_eq] at hts hss
  have hz := sizeC_eqn c
  have hro1 : ro ≤ m.length + 1 := by omega
  refine evL_by (n := 55) (by kernel_rfl) rfl fn59 rfl rfl rfl rfl ?_
  simp only [go_sem, ↓reduceIte]
  generalize hL : loopW _ _ = L
  obtain ⟨i, k1, hE, rfl⟩ := loopW_at hL (fun i : Nat => [(5, .c (.v (.int .i64 (min (1 + sizeTs (c.ts.take i)) (k + 1) : Nat)))), (6, .c (.v (.int .i64 i)))]) (fun _ => [] :: m) (fun i => i ≤ c.ts.length) (fun i => i = c.ts.length ∨ k < 1 + sizeTs (c.ts.take i)) (fun i => c.ts.length - i) 0
    (by simp [sets, sizeTs]) rfl (by omega) (by
    rintro i k1 hE
    simp only [not_or, Nat.not_lt] at hE
    obtain ⟨k2, k3⟩ := hE
    obtain ⟨x, hx⟩ : ∃ x, c.ts[i]? = some x := ⟨_, List.getElem?_eq_getElem (by omega)⟩
    have c1 : decide ((i : Int) < (c.ts.length : Int)) = true := dec_t (by omega)
    have c2 : decide (((min (1 + sizeTs (c.ts.take i)) (k + 1) : Nat) : Int) ≤ (k : Int)) = true := dec_t (by omega)
    have c3 : IntKind.i64.wrap ((i : Int) + 1) = ((i + 1 : Nat) : Int) := wrap64 (by omega) (by omega)
    have c4 : IntKind.i64.wrap ((k : Int) - ((min (1 + sizeTs (c.ts.take i)) (k + 1) : Nat) : Int)) = ((k - (1 + sizeTs (c.ts.take i)) : Nat) : Int) := (wrap64 (by omega) (by omega)).trans (by omega)
    have hsub := fun ro m => size_ev x (hc.arg.1 x (List.mem_of_getElem? hx)) (k - (1 + sizeTs (c.ts.take i))) (by omega) ro m
    have hs := sizeTs_take _ _ _ hx
    have c5 : IntKind.i64.wrap (((min (1 + sizeTs (c.ts.take i)) (k + 1) : Nat) : Int) + ((min (sizeT x) (k - (1 + sizeTs (c.ts.take i)) + 1) : Nat) : Int)) = ((min (1 + sizeTs (c.ts.take (i + 1))) (k + 1) : Nat) : Int) := (wrap64 (by omega) (by omega)).trans (by omega)
    refine ⟨i + 1, by omega, by omega, ?_⟩
    rw [round_go]
    simp only [go_sem, ↓reduceIte, c1, c2, c3, c4, c5, hx, hsub, hro, hro1])
  clear hL
  rw [loopW_go]
  obtain ⟨q, hq⟩ : ∃ q, q = 1 + sizeTs (c.ts.take i) := ⟨_, rfl⟩
  have hqs : min q (k + 1) = min (1 + sizeTs c.ts) (k + 1) := by
    rcases hE with rfl | hE
    · rw [hq, List.take_length]
    · have := sizeTs_le c.ts i; omega
  have c12 : (decide ((i : Int) < (c.ts.length : Int)) = false) ∨ (decide ((i : Int) < (c.ts.length : Int)) = true ∧ decide (((min q (k + 1) : Nat) : Int) ≤ (k : Int)) = false) := by
    by_cases hi : i = c.ts.length
    · exact .inl (dec_f (by omega))
    · exact .inr ⟨dec_t (by omega), dec_f (by have := hE.resolve_left hi; omega)⟩
  rw [← hq]
  have hq1 : 1 ≤ q := by omega
  have hqz : min (q + sizeCs c.ss) (k + 1) = min (sizeC c) (k + 1) := by omega
  clear hE hq hqs
  rcases c12 with c1 | ⟨c1, c2⟩
  · simp only [go_sem, ↓reduceIte, c1]
    generalize hL : loopW _ _ = L
    obtain ⟨j, k2, hE, rfl⟩ := loopW_at hL (fun j : Nat => [(5, .c (.v (.int .i64 (min (q + sizeCs (c.ss.take j)) (k + 1) : Nat)))), (7, .c (.v (.int .i64 j)))]) (fun _ => [] :: m) (fun j => j ≤ c.ss.length) (fun j => j = c.ss.length ∨ k < q + sizeCs (c.ss.take j)) (fun j => c.ss.length - j) 0
      (by simp [sets, sizeCs]) rfl (by omega) (by
      rintro j k2 hE
      simp only [not_or, Nat.not_lt] at hE
      obtain ⟨k3, k4⟩ := hE
      obtain ⟨x, hx⟩ : ∃ x, c.ss[j]? = some x := ⟨_, List.getElem?_eq_getElem (by omega)⟩
      have c1 : decide ((j : Int) < (c.ss.length : Int)) = true := dec_t (by omega)
      have c2 : decide (((min (q + sizeCs (c.ss.take j)) (k + 1) : Nat) : Int) ≤ (k : Int)) = true := dec_t (by omega)
      have c3 : IntKind.i64.wrap ((j : Int) + 1) = ((j + 1 : Nat) : Int) := wrap64 (by omega) (by omega)
      have c4 : IntKind.i64.wrap ((k : Int) - ((min (q + sizeCs (c.ss.take j)) (k + 1) : Nat) : Int)) = ((k - (q + sizeCs (c.ss.take j)) : Nat) : Int) := (wrap64 (by omega) (by omega)).trans (by omega)
      have hmem := List.mem_of_getElem? hx
      have hsub := fun ro m hro => ih _ (by have := Cl.lt hmem; omega) x (hc.arg.2 x hmem) (k - (q + sizeCs (c.ss.take j))) (by omega) ro m hro rfl
      have hs := sizeCs_take _ _ _ hx
      have c5 : IntKind.i64.wrap (((min (q + sizeCs (c.ss.take j)) (k + 1) : Nat) : Int) + ((min (sizeC x) (k - (q + sizeCs (c.ss.take j)) + 1) : Nat) : Int)) = ((min (q + sizeCs (c.ss.take (j + 1))) (k + 1) : Nat) : Int) := (wrap64 (by omega) (by omega)).trans (by omega)
      refine ⟨j + 1, by omega, by omega, ?_⟩
      rw [round_go]
      simp only [go_sem, ↓reduceIte, c1, c2, c3, c4, c5, hx, hsub, hro, hro1])
    clear hL
    rw [loopW_go]
    by_cases hi : j = c.ss.length
    · subst hi
      have d1 : decide ((c.ss.length : Int) < (c.ss.length : Int)) = false := dec_f (by omega)
      rw [List.take_length, hqz]
      simp only [go_sem, ↓reduceIte, d1]
    · have hb := hE.resolve_left hi
      have d1 : decide ((j : Int) < (c.ss.length : Int)) = true := dec_t (by omega)
      have hle := sizeCs_le c.ss j
      have e : min (q + sizeCs (c.ss.take j)) (k + 1) = min (sizeC c) (k + 1) := by omega
      have d2 : decide (((min (sizeC c) (k + 1) : Nat) : Int) ≤ (k : Int)) = false := dec_f (by omega)
      rw [e]
      simp only [go_sem, ↓reduceIte, d1, d2]
  · simp only [go_sem, ↓reduceIte, c1, c2]
    generalize hL : loopW _ _ = L
    obtain ⟨j, k2, hE, rfl⟩ := loopW_at hL (fun j : Nat => [(5, .c (.v (.int .i64 (min (q + sizeCs (c.ss.take j)) (k + 1) : Nat)))), (7, .c (.v (.int .i64 j)))]) (fun _ => [] :: m) (fun j => j ≤ c.ss.length) (fun j => j = c.ss.length ∨ k < q + sizeCs (c.ss.take j)) (fun j => c.ss.length - j) 0
      (by simp [sets, sizeCs]) rfl (by omega) (by
      rintro j k2 hE
      simp only [not_or, Nat.not_lt] at hE
      obtain ⟨k3, k4⟩ := hE
      obtain ⟨x, hx⟩ : ∃ x, c.ss[j]? = some x := ⟨_, List.getElem?_eq_getElem (by omega)⟩
      have c1 : decide ((j : Int) < (c.ss.length : Int)) = true := dec_t (by omega)
      have c2 : decide (((min (q + sizeCs (c.ss.take j)) (k + 1) : Nat) : Int) ≤ (k : Int)) = true := dec_t (by omega)
      have c3 : IntKind.i64.wrap ((j : Int) + 1) = ((j + 1 : Nat) : Int) := wrap64 (by omega) (by omega)
      have c4 : IntKind.i64.wrap ((k : Int) - ((min (q + sizeCs (c.ss.take j)) (k + 1) : Nat) : Int)) = ((k - (q + sizeCs (c.ss.take j)) : Nat) : Int) := (wrap64 (by omega) (by omega)).trans (by omega)
      have hmem := List.mem_of_getElem? hx
      have hsub := fun ro m hro => ih _ (by have := Cl.lt hmem; omega) x (hc.arg.2 x hmem) (k - (q + sizeCs (c.ss.take j))) (by omega) ro m hro rfl
      have hs := sizeCs_take _ _ _ hx
      have c5 : IntKind.i64.wrap (((min (q + sizeCs (c.ss.take j)) (k + 1) : Nat) : Int) + ((min (sizeC x) (k - (q + sizeCs (c.ss.take j)) + 1) : Nat) : Int)) = ((min (q + sizeCs (c.ss.take (j + 1))) (k + 1) : Nat) : Int) := (wrap64 (by omega) (by omega)).trans (by omega)
      refine ⟨j + 1, by omega, by omega, ?_⟩
      rw [round_go]
      simp only [go_sem, ↓reduceIte, c1, c2, c3, c4, c5, hx, hsub, hro, hro1])
    clear hL
    rw [loopW_go]
    by_cases hi : j = c.ss.length
    · subst hi
      have d1 : decide ((c.ss.length : Int) < (c.ss.length : Int)) = false := dec_f (by omega)
      rw [List.take_length, hqz]
      simp only [go_sem, ↓reduceIte, d1]
    · have hb := hE.resolve_left hi
      have d1 : decide ((j : Int) < (c.ss.length : Int)) = true := dec_t (by omega)
      have hle := sizeCs_le c.ss j
      have e : min (q + sizeCs (c.ss.take j)) (k + 1) = min (sizeC c) (k + 1) := by omega
      have d2 : decide (((min (sizeC c) (k + 1) : Nat) : Int) ≤ (k : Int)) = false := dec_f (by omega)
      rw [e]
      simp only [go_sem, ↓reduceIte, d1, d2]
set_option maxHeartbeats 2000000 in
theorem big_ev (c : Cl) (hc : okC c) (k : Nat) (hk : k ≤ 10000) (ro : Nat) (m : Mem) (hro : ro ≤ m.length) :
    evL Tryz.prog An ro 24 [.c (encC c), .c (.v (.int .i64 k))] m = some (.c (.v (.bool (decide (k < sizeC c)))), m) := by
  refine evL_by (n := 10) (by kernel_rfl) rfl fn24 rfl rfl rfl rfl ?_
  have hro1 : ro ≤ m.length + 1 := by omega
  have h := fun ro m hro => weight_ev c hc k hk ro m hro
  have e : decide (((min (sizeC c) (k + 1) : Nat) : Int) > (k : Int)) = decide (k < sizeC c) := by
    congr 1; apply propext; omega
  simp only [go_sem, ↓reduceIte, h, e, hro, hro1]
end Go.Eng
set_option maxRecDepth 100000
set_option linter.unusedVariables false
set_option linter.unusedSimpArgs false
namespace Go.Eng
open Go Go.Proofs
set_option maxHeartbeats 1000000 in
theorem f50_ev (v : Va) (nm : ByteArray) (ro : Nat) (m : Mem) : evL Tryz.prog An ro 120 [.c (encV v), .c (.fp [.v (.string nm)])] m = some (.c (.v (.bool (hasName nm v))), m) := by
  refine evL_by (n := 8) (by kernel_rfl) rfl fn120 rfl rfl rfl rfl ?_
  simp only [go_sem, ↓reduceIte, hasName]
set_option maxHeartbeats 1000000 in
theorem f49_ev (vs : List Va) (nm : ByteArray) (hl : vs.length ≤ maxLen) (ro : Nat) (m : Mem) :
    evL Tryz.prog An ro 119 [.c (.sl (vs.map encV)), .c (.fn (.func 120) [.fp [.v (.string nm)]])] m = some (.c (.v (.int .i64 (if idx (hasName nm) vs < vs.length then (idx (hasName nm) vs : Int) else -1))), m) := by
  rw [maxLen_eq] at hl
  refine evL_by (n := 19) (by kernel_rfl) rfl fn119 rfl rfl rfl rfl ?_
  simp only [go_sem, ↓reduceIte]
  generalize hL : loopW _ _ = L
  have hle := idx_le (hasName nm) vs
  obtain ⟨i, h1, hE, rfl⟩ := loopW_at hL (fun i : Nat => [(8, .c (.v (.int .i64 i)))]) (fun _ => [] :: m) (fun i => i ≤ idx (hasName nm) vs) (fun i => i = idx (hasName nm) vs) (fun i => vs.length - i) 0 rfl rfl (by omega) (by
    rintro i h1 hE
    obtain ⟨x, hx⟩ : ∃ x, vs[i]? = some x := ⟨_, List.getElem?_eq_getElem (by omega)⟩
    have c1 : decide ((i : Int) < (vs.length : Int)) = true := dec_t (by omega)
    have c3 : IntKind.i64.wrap ((i : Int) + 1) = ((i + 1 : Nat) : Int) := wrap64 (by omega) (by omega)
    have c2 := idx_not (hasName nm) vs i x (by omega) hx
    refine ⟨i + 1, by omega, by omega, ?_⟩
    rw [round_go]
    simp only [go_sem, ↓reduceIte, c1, c2, c3, hx, f50_ev])
  clear hL
  subst hE
  rw [loopW_go]
  by_cases hi : idx (hasName nm) vs < vs.length
  · obtain ⟨x, hx⟩ : ∃ x, vs[idx (hasName nm) vs]? = some x := ⟨_, List.getElem?_eq_getElem hi⟩
    have c1 : decide ((idx (hasName nm) vs : Int) < (vs.length : Int)) = true := dec_t (by omega)
    have c2 := idx_is _ _ x hx
    simp only [go_sem, ↓reduceIte, c1, c2, hx, f50_ev, if_pos hi]
  · have c1 : decide ((idx (hasName nm) vs : Int) < (vs.length : Int)) = false := dec_f (by omega)
    simp only [go_sem, ↓reduceIte, c1, if_neg hi]
def sortOf (vs : List Va) (nm : ByteArray) : Option ByteArray := (vs[idx (hasName nm) vs]?).map Va.so
def encO (o : Option ByteArray) : List V := match o with | some s => [.c (.v (.string s)), .c (.v (.bool true))] | none => [.c (.v (.string ByteArray.empty)), .c (.v (.bool false))]
set_option maxHeartbeats 1000000 in
theorem f48_ev (vs : List Va) (nm : ByteArray) (hl : vs.length ≤ maxLen) (ro : Nat) (m : Mem) :
    evL Tryz.prog An ro 118 [.c (.v (.string nm)), .c (.fp [.sl (vs.map encV)])] m = some (.tup (encO (sortOf vs nm)), m) := by
  refine evL_by (n := 16) (by kernel_rfl) rfl fn118 rfl rfl rfl rfl ?_
  by_cases hi : idx (hasName nm) vs < vs.length
  · obtain ⟨x, hx⟩ : ∃ x, vs[idx (hasName nm) vs]? = some x := ⟨_, List.getElem?_eq_getElem hi⟩
    have c1 : decide ((idx (hasName nm) vs : Int) < 0) = false := dec_f (by omega)
    simp only [go_sem, ↓reduceIte, f49_ev _ _ hl, if_pos hi, c1, hx, sortOf, encO]
  · have hx : vs[idx (hasName nm) vs]? = none := List.getElem?_eq_none (by omega)
    simp only [go_sem, ↓reduceIte, f49_ev _ _ hl, if_neg hi, hx, sortOf, encO, Int.reduceNeg, Int.reduceLT, decide_true, Option.map_none]
def hasF (nm : ByteArray) (f : Fu) : Bool := beqS f.nm nm
def noFun : Fu := ⟨ByteArray.empty, [], ByteArray.empty⟩
def boxF0 : Box := [.c (.v (.string ByteArray.empty)), .tip none [], .c (.v (.string ByteArray.empty))]
attribute [go_sem] boxF0
def findF (s : Sg) (nm : ByteArray) : Fu × Bool := match s.funs[idx (hasF nm) s.funs]? with | some f => (f, true) | none => (noFun, false)
set_option maxHeartbeats 1000000 in
theorem f35_ev (s : Sg) (nm : ByteArray) (hl : s.funs.length ≤ maxLen) (ro : Nat) (m : Mem) (hro : ro ≤ m.length) :
    evL Tryz.prog An ro 160 [.c (encS s), .c (.v (.string nm))] m = some (.tup [.c (encF (findF s nm).1), .c (.v (.bool (findF s nm).2))], m) := by
  rw [maxLen_eq] at hl
  refine evL_by (n := 22) (by kernel_rfl) rfl fn160 rfl rfl rfl rfl ?_
  simp only [go_sem, ↓reduceIte]
  generalize hL : loopW _ _ = L
  have hle := idx_le (hasF nm) s.funs
  obtain ⟨i, h1, hE, rfl⟩ := loopW_at hL (fun i : Nat => [(11, .c (.v (.int .i64 i)))]) (fun _ => [(4, boxF0)] :: m) (fun i => i ≤ idx (hasF nm) s.funs) (fun i => i = idx (hasF nm) s.funs) (fun i => s.funs.length - i) 0 rfl rfl (by omega) (by
    rintro i h1 hE
    obtain ⟨x, hx⟩ : ∃ x, s.funs[i]? = some x := ⟨_, List.getElem?_eq_getElem (by omega)⟩
    have c1 : decide ((i : Int) < (s.funs.length : Int)) = true := dec_t (by omega)
    have c3 : IntKind.i64.wrap ((i : Int) + 1) = ((i + 1 : Nat) : Int) := wrap64 (by omega) (by omega)
    have c2 := idx_not (hasF nm) s.funs i x (by omega) hx
    unfold hasF at c2
    refine ⟨i + 1, by omega, by omega, ?_⟩
    rw [round_go]
    simp only [go_sem, ↓reduceIte, c1, c2, c3, hx, noFun, hro])
  clear hL
  subst hE
  rw [loopW_go]
  by_cases hi : idx (hasF nm) s.funs < s.funs.length
  · obtain ⟨x, hx⟩ : ∃ x, s.funs[idx (hasF nm) s.funs]? = some x := ⟨_, List.getElem?_eq_getElem hi⟩
    have c1 : decide ((idx (hasF nm) s.funs : Int) < (s.funs.length : Int)) = true := dec_t (by omega)
    have c2 := idx_is (hasF nm) s.funs x hx
    unfold hasF at c2
    have e : findF s nm = (x, true) := by unfold findF; rw [hx]
    rw [e]
    simp only [go_sem, ↓reduceIte, c1, c2, hx, noFun, hro]
  · have c1 : decide ((idx (hasF nm) s.funs : Int) < (s.funs.length : Int)) = false := dec_f (by omega)
    have e : findF s nm = (noFun, false) := by unfold findF; rw [List.getElem?_eq_none (by omega)]
    rw [e]
    simp only [go_sem, ↓reduceIte, c1, noFun, hro]
    rfl
def encR (s : Sg) (vs : List Va) (bs : List ByteArray) : C := .agg [.sl (s.sorts.map cS), .sl (s.funs.map encF), .fn (.func 118) [.fp [.sl (vs.map encV)]], .sl (bs.map cS)]
theorem encR_cells {s : Sg} {vs : List Va} {bs : List ByteArray} : (encR s vs bs).cells = [.sl (s.sorts.map cS), .sl (s.funs.map encF), .fn (.func 118) [.fp [.sl (vs.map encV)]], .sl (bs.map cS)] := rfl
theorem encR_fold {s : Sg} {vs : List Va} {bs : List ByteArray} : C.agg [.sl (s.sorts.map cS), .sl (s.funs.map encF), .fn (.func 118) [.fp [.sl (vs.map encV)]], .sl (bs.map cS)] = encR s vs bs := rfl
theorem encR_agg {s : Sg} {vs : List Va} {bs : List ByteArray} : (encR s vs bs).isAgg = true := rfl
attribute [go_sem] encR_cells encR_fold encR_agg
set_option maxHeartbeats 1000000 in
theorem f25_ev (s : Sg) (vs : List Va) (ro : Nat) (m : Mem) (hro : ro ≤ m.length) : evL Tryz.prog An ro 75 [.c (encS s), .c (.sl (vs.map encV))] m = some (.c (encR s vs []), m) := by
  refine evL_by (n := 8) (by kernel_rfl) rfl fn75 rfl rfl rfl rfl ?_
  simp only [go_sem, ↓reduceIte, hro]
  rfl
set_option maxHeartbeats 1000000 in
theorem f52_ev (s : Sg) (vs : List Va) (bs : List ByteArray) (nm : ByteArray) (pred : Bool) (hl : s.funs.length ≤ maxLen) (ro : Nat) (m : Mem) (hro : ro ≤ m.length) :
    evL Tryz.prog An ro 124 [.c (encR s vs bs), .c (.v (.string nm)), .c (.v (.bool pred))] m = some (.tup [.c (encF (findF s nm).1), .c (.v (.bool ((findF s nm).2 && (beqS (findF s nm).1.res sBool == pred))))], m) := by
  refine evL_by (n := 26) (by kernel_rfl) rfl fn124 rfl rfl rfl rfl ?_
  have hf := fun ro m => f35_ev s nm hl ro m
  have hro1 : ro ≤ m.length + 1 := by omega
  generalize findF s nm = q at hf ⊢
  obtain ⟨f, b⟩ := q
  cases b with
  | true => simp only [go_sem, ↓reduceIte, hf, hro, hro1]
  | false => simp only [go_sem, ↓reduceIte, hf, hro, hro1]
end Go.Eng
set_option maxRecDepth 100000
set_option linter.unusedVariables false
set_option linter.unusedSimpArgs false
namespace Go.Eng
open Go Go.Proofs
set_option maxHeartbeats 1000000 in
theorem f67_ev (way : List Int) (k : Int) (hl : way.length ≤ 1000000) (ro : Nat) (m : Mem) : evL Tryz.prog An ro 123 [.c (.sl (way.map cI)), .c (.v (.int .i64 k))] m = some (.tip (some 1) ((way ++ [k]).map cI), m) := by
  refine evL_by (n := 14) (by kernel_rfl) rfl fn123 rfl rfl rfl rfl ?_
  have h1 : (way.length + 1) * 8 ≤ 140737488355328 := by omega
  have h2 : way.length + 1 ≤ 9223372036854775807 := by omega
  simp only [go_sem, ↓reduceIte, h1, h2]
  rw [← map_snoc]; rfl
/-- the way to the first one of another sort -/
def askW (way : List Int) (frm : Int) : Nat → List ByteArray → List ByteArray → List Int × Int
  | i, h :: hs, w :: ws => if beqS h w then askW way frm (i + 1) hs ws else (way ++ [frm + i], 11)
  | _, _, _ => ([], 0)
def encA (x : List Int × Int) : List V := [.c (.sl (x.1.map cI)), .c (.v (.int .i64 x.2))]
set_option maxHeartbeats 2000000 in
theorem f54_ev (way : List Int) (frm : Int) (has wants : List ByteArray) (hl : way.length ≤ 1000000) (hw : wants.length = has.length) (hn : has.length ≤ 1000000) (h0 : 0 ≤ frm) (h1 : frm ≤ 1000000) (ro : Nat) (m : Mem) :
    evL Tryz.prog An ro 126 [.c (.sl (way.map cI)), .c (.v (.int .i64 frm)), .c (.sl (has.map cS)), .c (.sl (wants.map cS))] m = some (.tup (encA (askW way frm 0 has wants)), m) := by
  refine evL_by (n := 31) (by kernel_rfl) rfl fn126 rfl rfl rfl rfl ?_
  simp only [go_sem, ↓reduceIte]
  generalize hL : loopW _ _ = L
  obtain ⟨i, ⟨k1, k2⟩, hE, rfl⟩ := loopW_at hL (fun i : Nat => [(14, .c (.v (.int .i64 i)))]) (fun _ => [] :: m) (fun i => i ≤ has.length ∧ askW way frm 0 has wants = askW way frm i (has.drop i) (wants.drop i)) (fun i => i = has.length ∨ ∃ x y, has[i]? = some x ∧ wants[i]? = some y ∧ beqS x y = false) (fun i => has.length - i) 0 rfl rfl ⟨by omega, by simp⟩ (by
    rintro i ⟨k1, k2⟩ hE
    simp only [not_or, not_exists, not_and] at hE
    obtain ⟨k3, k4⟩ := hE
    obtain ⟨x, hx⟩ : ∃ x, has[i]? = some x := ⟨_, List.getElem?_eq_getElem (by omega)⟩
    obtain ⟨y, hy⟩ : ∃ y, wants[i]? = some y := ⟨_, List.getElem?_eq_getElem (by omega)⟩
    have c1 : decide ((i : Int) < (wants.length : Int)) = true := dec_t (by omega)
    have c3 : IntKind.i64.wrap ((i : Int) + 1) = ((i + 1 : Nat) : Int) := wrap64 (by omega) (by omega)
    have c2 : beqS x y = true := by simpa using k4 x y hx hy
    refine ⟨i + 1, ⟨by omega, ?_⟩, by omega, ?_⟩
    · rw [k2, drop_get hx, drop_get hy, askW, if_pos c2]
    · rw [round_go]
      simp only [go_sem, ↓reduceIte, c1, c2, c3, hx, hy])
  clear hL
  rw [loopW_go, k2]
  by_cases hi : i = has.length
  · have c1 : decide ((i : Int) < (wants.length : Int)) = false := dec_f (by omega)
    rw [List.drop_eq_nil_of_le (by omega), askW]
    simp only [go_sem, ↓reduceIte, c1, encA]
    intro _ _ _ _ h; cases h
  · obtain ⟨x, y, hx, hy, c2⟩ := hE.resolve_left hi
    have c1 : decide ((i : Int) < (wants.length : Int)) = true := dec_t (by omega)
    have c4 : IntKind.i64.wrap (frm + (i : Int)) = frm + i := wrap64 (by omega) (by omega)
    rw [drop_get hx, drop_get hy, askW, if_neg (by simp [c2])]
    simp only [go_sem, ↓reduceIte, c1, c2, hx, hy, c4, f67_ev _ _ hl, encA]
end Go.Eng
set_option maxRecDepth 100000
set_option linter.unusedVariables false
set_option linter.unusedSimpArgs false
namespace Go.Eng
open Go Go.Proofs
abbrev Ans := ByteArray × List Int × Int
/-- a function of things -/
def applyW (way : List Int) (f : Fu) (ok : Bool) (has : List ByteArray) : Ans :=
  if ok = false then (noS, way, 10)
  else if f.args.length ≠ has.length then (noS, way, 12)
  else if (askW way 0 0 has f.args).2 ≠ 0 then (noS, (askW way 0 0 has f.args).1, (askW way 0 0 has f.args).2)
  else (f.res, [], 0)
def encN (x : Ans) : List V := [.c (.v (.string x.1)), .c (.sl (x.2.1.map cI)), .c (.v (.int .i64 x.2.2))]
theorem len_ne {a b : Nat} : ((a : Int) != (b : Int)) = decide (a ≠ b) := by
  by_cases h : a = b
  · subst h; simp
  · rw [decide_eq_true (by exact h)]; simp; omega
set_option maxHeartbeats 2000000 in
theorem f53_ev (s : Sg) (vs : List Va) (bs : List ByteArray) (way : List Int) (f : Fu) (ok : Bool) (has : List ByteArray) (hl : way.length ≤ 1000000) (hn : has.length ≤ 1000000) (ro : Nat) (m : Mem) :
    evL Tryz.prog An ro 125 [.c (encR s vs bs), .c (.sl (way.map cI)), .c (encF f), .c (.v (.bool ok)), .c (.sl (has.map cS))] m = some (.tup (encN (applyW way f ok has)), m) := by
  refine evL_by (n := 41) (by kernel_rfl) rfl fn125 rfl rfl rfl rfl ?_
  unfold applyW
  cases ok with
  | false => simp only [go_sem, ↓reduceIte, encN, noS]
  | true =>
    by_cases h1 : f.args.length ≠ has.length
    · have c1 : decide (f.args.length ≠ has.length) = true := dec_t h1
      simp only [go_sem, ↓reduceIte, len_ne, c1, if_pos h1, encN, noS]
    · have c1 : decide (f.args.length ≠ has.length) = false := dec_f h1
      have hw : f.args.length = has.length := by simpa using h1
      have ha := fun ro m => f54_ev way 0 has f.args hl hw hn (by omega) (by omega) ro m
      generalize askW way 0 0 has f.args = q at ha ⊢
      obtain ⟨at_, e⟩ := q
      by_cases h2 : e = 0
      · have c2 : (e != 0) = false := by simp [h2]
        simp only [go_sem, ↓reduceIte, len_ne, c1, if_neg h1, ha, encA, encN, noS, c2]
        simp [h2]
      · have c2 : (e != 0) = true := by simpa using h2
        simp only [go_sem, ↓reduceIte, len_ne, c1, if_neg h1, ha, encA, encN, c2, noS]
        simp [h2]
/-- so far down, and no more than 8 at once, and no binder that there is not -/
inductive fitT : Nat → Tm → Prop
  | mk (d : Nat) (t : Tm) (h : t.l.length ≤ 8) (hb : t.op = 2 → 0 ≤ t.nu) (h2 : t.op ≠ 3 → t.l.length ≤ 2) (r : ∀ x ∈ t.l, fitT d x) : fitT (d + 1) t
def ownW (s : Sg) (vs : List Va) (bs : List ByteArray) (way : List Int) (op : Int) (nm : ByteArray) (nu : Int) (has : List ByteArray) : Ans :=
  if op = 1 then (match sortOf vs nm with | some so => (so, [], 0) | none => (noS, way, 10))
  else if op = 2 then (if (bs.length : Int) ≤ nu then (noS, way, 13) else (bs.getD (bs.length - 1 - nu.toNat) noS, [], 0))
  else if op = 3 then applyW way (findF s nm).1 ((findF s nm).2 && (beqS (findF s nm).1.res sBool == false)) has
  else if (askW way 0 0 has (List.replicate has.length sInt)).2 ≠ 0 then (noS, (askW way 0 0 has (List.replicate has.length sInt)).1, (askW way 0 0 has (List.replicate has.length sInt)).2)
  else (sInt, [], 0)
mutual
def termW (s : Sg) (vs : List Va) (bs : List ByteArray) : List Int → Tm → Ans
  | way, .mk op nm nu l => if (allW s vs bs way 0 l).2.2 ≠ 0 then (noS, (allW s vs bs way 0 l).2.1, (allW s vs bs way 0 l).2.2) else ownW s vs bs way op nm nu (allW s vs bs way 0 l).1
def allW (s : Sg) (vs : List Va) (bs : List ByteArray) : List Int → Nat → List Tm → List ByteArray × List Int × Int
  | _, _, [] => ([], [], 0)
  | way, i, x :: r => if (termW s vs bs (way ++ [(i : Int)]) x).2.2 ≠ 0 then ([], (termW s vs bs (way ++ [(i : Int)]) x).2.1, (termW s vs bs (way ++ [(i : Int)]) x).2.2)
    else if (allW s vs bs way (i + 1) r).2.2 ≠ 0 then allW s vs bs way (i + 1) r
    else ((termW s vs bs (way ++ [(i : Int)]) x).1 :: (allW s vs bs way (i + 1) r).1, [], 0)
end
theorem allW_err {s : Sg} {vs : List Va} {bs : List ByteArray} {way : List Int} : ∀ {l : List Tm} {i : Nat}, (allW s vs bs way i l).2.2 ≠ 0 → (allW s vs bs way i l).1 = []
  | [], i, h => by simp [allW] at h
  | x :: r, i, h => by
    simp only [allW] at h ⊢
    split
    · rfl
    · split
      · rename_i h2; exact allW_err h2
      · rename_i h1 h2; rw [if_neg h1, if_neg h2] at h; simp at h
theorem allW_ok {s : Sg} {vs : List Va} {bs : List ByteArray} {way : List Int} : ∀ {l : List Tm} {i : Nat}, (allW s vs bs way i l).2.2 = 0 → (allW s vs bs way i l).1.length = l.length ∧ (allW s vs bs way i l).2.1 = []
  | [], i, h => by simp [allW]
  | x :: r, i, h => by
    simp only [allW] at h ⊢
    split at h
    · rename_i h1; exact absurd h h1
    · split at h
      · rename_i h2; exact absurd h h2
      · rename_i h1 h2
        rw [if_neg h1, if_neg h2]
        exact ⟨by simp [(allW_ok (by simpa using h2)).1], rfl⟩
/-- what a loop over the terms knows so far -/
def restW (s : Sg) (vs : List Va) (bs : List ByteArray) (way : List Int) (i : Nat) (out : List ByteArray) (r : List Tm) : List ByteArray × List Int × Int :=
  if (allW s vs bs way i r).2.2 ≠ 0 then ([], (allW s vs bs way i r).2) else (out ++ (allW s vs bs way i r).1, [], 0)
def encL3 (x : List ByteArray × List Int × Int) : List V := [.c (.sl (x.1.map cS)), .c (.sl (x.2.1.map cI)), .c (.v (.int .i64 x.2.2))]
end Go.Eng
