-- own work: an evaluator of the program's code, and what it answers
import Derived.Test.YtapjanalameofaaDoorTab
set_option maxRecDepth 100000
set_option linter.unusedVariables false
set_option linter.unusedSimpArgs false
namespace Go.Eng
open Go Go.Proofs
set_option maxHeartbeats 1000000 in
theorem size_ev (t : Tm) (ht : okT t) (n : Nat) (hn : n ≤ 100000) (ro : Nat) (m : Mem) :
    evL Tryd.prog An ro 9 [.c (encT t), .c (.v (.int .i64 n))] m = some (.c (.v (.int .i64 (min (sizeT t) (n + 1) : Nat))), m) := by
  induction hd : SizeOf.sizeOf t using Nat.strongRecOn generalizing t n ro m with
  | _ d ih =>
  have hlen := ht.len
  rw [maxLen_eq] at hlen
  refine evL_by (n := 31) (by kernel_rfl) rfl fn9 rfl rfl rfl rfl ?_
  simp only [go_sem, ↓reduceIte]
  generalize hL : loopW _ _ = L
  obtain ⟨i, hI, hE, rfl⟩ := loopW_at hL (fun i : Nat => [(5, .c (.v (.int .i64 (min (1 + sizeTs (t.l.take i)) (n + 1) : Nat)))), (6, .c (.v (.int .i64 i)))])
    (fun _ => [] :: m) (fun i => i ≤ t.l.length) (fun i => i = t.l.length ∨ n < 1 + sizeTs (t.l.take i)) (fun i => t.l.length - i) 0 (by simp [sets, sizeTs]) rfl (by omega) (by
    rintro i h1 hE
    simp only [not_or, Nat.not_lt] at hE
    obtain ⟨h2, h3⟩ := hE
    obtain ⟨x, hx⟩ : ∃ x, t.l[i]? = some x := ⟨_, List.getElem?_eq_getElem (by omega)⟩
    have c1 : decide ((i : Int) < (t.l.length : Int)) = true := dec_t (by omega)
    have c2 : decide (((min (1 + sizeTs (t.l.take i)) (n + 1) : Nat) : Int) ≤ (n : Int)) = true := dec_t (by omega)
    have c3 : IntKind.i64.wrap ((i : Int) + 1) = ((i + 1 : Nat) : Int) := wrap64 (by omega) (by omega)
    have c4 : IntKind.i64.wrap ((n : Int) - ((min (1 + sizeTs (t.l.take i)) (n + 1) : Nat) : Int)) = ((n - (1 + sizeTs (t.l.take i)) : Nat) : Int) := (wrap64 (by omega) (by omega)).trans (by omega)
    have hmem : x ∈ t.l := List.mem_of_getElem? hx
    have hc := fun ro m => ih _ (by have := Tm.lt hmem; omega) x (ht.arg hmem) (n - (1 + sizeTs (t.l.take i))) (by omega) ro m rfl
    have hs := sizeTs_take _ _ _ hx
    have c5 : IntKind.i64.wrap (((min (1 + sizeTs (t.l.take i)) (n + 1) : Nat) : Int) + ((min (sizeT x) (n - (1 + sizeTs (t.l.take i)) + 1) : Nat) : Int)) = ((min (1 + sizeTs (t.l.take (i + 1))) (n + 1) : Nat) : Int) := (wrap64 (by omega) (by omega)).trans (by omega)
    refine ⟨i + 1, by omega, by omega, ?_⟩
    rw [round_go]
    simp only [go_sem, ↓reduceIte, c1, c2, c3, c4, hx, hc, c5])
  clear hL
  have hle := sizeTs_le t.l i
  have hz := sizeT_eq t
  rw [loopW_go]
  by_cases hi : i = t.l.length
  · subst hi
    have c1 : decide ((t.l.length : Int) < (t.l.length : Int)) = false := dec_f (by omega)
    simp only [go_sem, ↓reduceIte, c1]
    rw [List.take_length, ← hz]
  · have c1 : decide ((i : Int) < (t.l.length : Int)) = true := dec_t (by omega)
    have c2 : decide (((min (1 + sizeTs (t.l.take i)) (n + 1) : Nat) : Int) ≤ (n : Int)) = false := dec_f (by omega)
    simp only [go_sem, ↓reduceIte, c1, c2]
    have : min (1 + sizeTs (t.l.take i)) (n + 1) = min (sizeT t) (n + 1) := by omega
    rw [this]
end Go.Eng
set_option maxRecDepth 100000
set_option linter.unusedVariables false
set_option linter.unusedSimpArgs false
namespace Go.Eng
open Go Go.Proofs
set_option maxHeartbeats 8000000 in
theorem weight_ev (c : Cl) (hc : okC c) (k : Nat) (hk : k ≤ 10000) (ro : Nat) (m : Mem) (hro : ro ≤ m.length) :
    evL Tryd.prog An ro 60 [.c (encC c), .c (.v (.int .i64 k))] m = some (.c (.v (.int .i64 (min (sizeC c) (k + 1) : Nat))), m) := by
  induction hd : SizeOf.sizeOf c using Nat.strongRecOn generalizing c k ro m with
  | _ d ih =>
  have hts := hc.len.1
  have hss := hc.len.2
  rw [maxLen_eq] at hts hss
  have hz := sizeC_eqn c
  have hro1 : ro ≤ m.length + 1 := by omega
  refine evL_by (n := 55) (by kernel_rfl) rfl fn60 rfl rfl rfl rfl ?_
  simp only [go_sem, ↓reduceIte]
  generalize hL : loopW _ _ = L
  obtain ⟨i, k1, hE, rfl⟩ := loopW_at hL (fun i : Nat => [(5, .c (.v (.int .i64 (min (1 + sizeTs (c.ts.take i)) (k + 1) : Nat)))), (6, .c (.v (.int .i64 i)))]) (fun _ => [] :: m) (fun i => i ≤ c.ts.length) (fun i => i = c.ts.length ∨ k < 1 + sizeTs (c.ts.take i)) (fun i => c.ts.length - i) 0
    (by simp [sets, sizeTs]) rfl (by omega) (by
    rintro i k1 hE
    simp only [not_or, Nat.not_lt] at hE
    obtain ⟨k2, k3⟩ := hE
    obtain ⟨x, hx⟩ : ∃ x, c.ts[i]? = some x := ⟨_, List.getElem?_eq_getElem (by omega)⟩
    have c1 : decide ((i : Int) < (c.ts.length : Int)) = true := dec_t (by omega)
    have c2 : decide (((min (1 + sizeTs (c.ts.take i)) (k + 1) : Nat) : Int) ≤ (k : Int)) = true := dec_t (by omega)
    have c3 : IntKind.i64.wrap ((i : Int) + 1) = ((i + 1 : Nat) : Int) := wrap64 (by omega) (by omega)
    have c4 : IntKind.i64.wrap ((k : Int) - ((min (1 + sizeTs (c.ts.take i)) (k + 1) : Nat) : Int)) = ((k - (1 + sizeTs (c.ts.take i)) : Nat) : Int) := (wrap64 (by omega) (by omega)).trans (by omega)
    have hsub := fun ro m => size_ev x (hc.arg.1 x (List.mem_of_getElem? hx)) (k - (1 + sizeTs (c.ts.take i))) (by omega) ro m
    have hs := sizeTs_take _ _ _ hx
    have c5 : IntKind.i64.wrap (((min (1 + sizeTs (c.ts.take i)) (k + 1) : Nat) : Int) + ((min (sizeT x) (k - (1 + sizeTs (c.ts.take i)) + 1) : Nat) : Int)) = ((min (1 + sizeTs (c.ts.take (i + 1))) (k + 1) : Nat) : Int) := (wrap64 (by omega) (by omega)).trans (by omega)
    refine ⟨i + 1, by omega, by omega, ?_⟩
    rw [round_go]
    simp only [go_sem, ↓reduceIte, c1, c2, c3, c4, c5, hx, hsub, hro, hro1])
  clear hL
  rw [loopW_go]
  obtain ⟨q, hq⟩ : ∃ q, q = 1 + sizeTs (c.ts.take i) := ⟨_, rfl⟩
  have hqs : min q (k + 1) = min (1 + sizeTs c.ts) (k + 1) := by
    rcases hE with rfl | hE
    · rw [hq, List.take_length]
    · have := sizeTs_le c.ts i; omega
  have c12 : (decide ((i : Int) < (c.ts.length : Int)) = false) ∨ (decide ((i : Int) < (c.ts.length : Int)) = true ∧ decide (((min q (k + 1) : Nat) : Int) ≤ (k : Int)) = false) := by
    by_cases hi : i = c.ts.length
    · exact .inl (dec_f (by omega))
    · exact .inr ⟨dec_t (by omega), dec_f (by have := hE.resolve_left hi; omega)⟩
  rw [← hq]
  have hq1 : 1 ≤ q := by omega
  have hqz : min (q + sizeCs c.ss) (k + 1) = min (sizeC c) (k + 1) := by omega
  clear hE hq hqs
  rcases c12 with c1 | ⟨c1, c2⟩
  · simp only [go_sem, ↓reduceIte, c1]
    generalize hL : loopW _ _ = L
    obtain ⟨j, k2, hE, rfl⟩ := loopW_at hL (fun j : Nat => [(5, .c (.v (.int .i64 (min (q + sizeCs (c.ss.take j)) (k + 1) : Nat)))), (7, .c (.v (.int .i64 j)))]) (fun _ => [] :: m) (fun j => j ≤ c.ss.length) (fun j => j = c.ss.length ∨ k < q + sizeCs (c.ss.take j)) (fun j => c.ss.length - j) 0
      (by simp [sets, sizeCs]) rfl (by omega) (by
      rintro j k2 hE
      simp only [not_or, Nat.not_lt] at hE
      obtain ⟨k3, k4⟩ := hE
      obtain ⟨x, hx⟩ : ∃ x, c.ss[j]? = some x := ⟨_, List.getElem?_eq_getElem (by omega)⟩
      have c1 : decide ((j : Int) < (c.ss.length : Int)) = true := dec_t (by omega)
      have c2 : decide (((min (q + sizeCs (c.ss.take j)) (k + 1) : Nat) : Int) ≤ (k : Int)) = true := dec_t (by omega)
      have c3 : IntKind.i64.wrap ((j : Int) + 1) = ((j + 1 : Nat) : Int) := wrap64 (by omega) (by omega)
      have c4 : IntKind.i64.wrap ((k : Int) - ((min (q + sizeCs (c.ss.take j)) (k + 1) : Nat) : Int)) = ((k - (q + sizeCs (c.ss.take j)) : Nat) : Int) := (wrap64 (by omega) (by omega)).trans (by omega)
      have hmem := List.mem_of_getElem? hx
      have hsub := fun ro m hro => ih _ (by have := Cl.lt hmem; omega) x (hc.arg.2 x hmem) (k - (q + sizeCs (c.ss.take j))) (by omega) ro m hro rfl
      have hs := sizeCs_take _ _ _ hx
      have c5 : IntKind.i64.wrap (((min (q + sizeCs (c.ss.take j)) (k + 1) : Nat) : Int) + ((min (sizeC x) (k - (q + sizeCs (c.ss.take j)) + 1) : Nat) : Int)) = ((min (q + sizeCs (c.ss.take (j + 1))) (k + 1) : Nat) : Int) := (wrap64 (by omega) (by omega)).trans (by omega)
      refine ⟨j + 1, by omega, by omega, ?_⟩
      rw [round_go]
      simp only [go_sem, ↓reduceIte, c1, c2, c3, c4, c5, hx, hsub, hro, hro1])
    clear hL
    rw [loopW_go]
    by_cases hi : j = c.ss.length
    · subst hi
      have d1 : decide ((c.ss.length : Int) < (c.ss.length : Int)) = false := dec_f (by omega)
      rw [List.take_length, hqz]
      simp only [go_sem, ↓reduceIte, d1]
    · have hb := hE.resolve_left hi
      have d1 : decide ((j : Int) < (c.ss.length : Int)) = true := dec_t (by omega)
      have hle := sizeCs_le c.ss j
      have e : min (q + sizeCs (c.ss.take j)) (k + 1) = min (sizeC c) (k + 1) := by omega
      have d2 : decide (((min (sizeC c) (k + 1) : Nat) : Int) ≤ (k : Int)) = false := dec_f (by omega)
      rw [e]
      simp only [go_sem, ↓reduceIte, d1, d2]
  · simp only [go_sem, ↓reduceIte, c1, c2]
    generalize hL : loopW _ _ = L
    obtain ⟨j, k2, hE, rfl⟩ := loopW_at hL (fun j : Nat => [(5, .c (.v (.int .i64 (min (q + sizeCs (c.ss.take j)) (k + 1) : Nat)))), (7, .c (.v (.int .i64 j)))]) (fun _ => [] :: m) (fun j => j ≤ c.ss.length) (fun j => j = c.ss.length ∨ k < q + sizeCs (c.ss.take j)) (fun j => c.ss.length - j) 0
      (by simp [sets, sizeCs]) rfl (by omega) (by
      rintro j k2 hE
      simp only [not_or, Nat.not_lt] at hE
      obtain ⟨k3, k4⟩ := hE
      obtain ⟨x, hx⟩ : ∃ x, c.ss[j]? = some x := ⟨_, List.getElem?_eq_getElem (by omega)⟩
      have c1 : decide ((j : Int) < (c.ss.length : Int)) = true := dec_t (by omega)
      have c2 : decide (((min (q + sizeCs (c.ss.take j)) (k + 1) : Nat) : Int) ≤ (k : Int)) = true := dec_t (by omega)
      have c3 : IntKind.i64.wrap ((j : Int) + 1) = ((j + 1 : Nat) : Int) := wrap64 (by omega) (by omega)
      have c4 : IntKind.i64.wrap ((k : Int) - ((min (q + sizeCs (c.ss.take j)) (k + 1) : Nat) : Int)) = ((k - (q + sizeCs (c.ss.take j)) : Nat) : Int) := (wrap64 (by omega) (by omega)).trans (by omega)
      have hmem := List.mem_of_getElem? hx
      have hsub := fun ro m hro => ih _ (by have := Cl.lt hmem; omega) x (hc.arg.2 x hmem) (k - (q + sizeCs (c.ss.take j))) (by omega) ro m hro rfl
      have hs := sizeCs_take _ _ _ hx
      have c5 : IntKind.i64.wrap (((min (q + sizeCs (c.ss.take j)) (k + 1) : Nat) : Int) + ((min (sizeC x) (k - (q + sizeCs (c.ss.take j)) + 1) : Nat) : Int)) = ((min (q + sizeCs (c.ss.take (j + 1))) (k + 1) : Nat) : Int) := (wrap64 (by omega) (by omega)).trans (by omega)
      refine ⟨j + 1, by omega, by omega, ?_⟩
      rw [round_go]
      simp only [go_sem, ↓reduceIte, c1, c2, c3, c4, c5, hx, hsub, hro, hro1])
    clear hL
    rw [loopW_go]
    by_cases hi : j = c.ss.length
    · subst hi
      have d1 : decide ((c.ss.length : Int) < (c.ss.length : Int)) = false := dec_f (by omega)
      rw [List.take_length, hqz]
      simp only [go_sem, ↓reduceIte, d1]
    · have hb := hE.resolve_left hi
      have d1 : decide ((j : Int) < (c.ss.length : Int)) = true := dec_t (by omega)
      have hle := sizeCs_le c.ss j
      have e : min (q + sizeCs (c.ss.take j)) (k + 1) = min (sizeC c) (k + 1) := by omega
      have d2 : decide (((min (sizeC c) (k + 1) : Nat) : Int) ≤ (k : Int)) = false := dec_f (by omega)
      rw [e]
      simp only [go_sem, ↓reduceIte, d1, d2]
set_option maxHeartbeats 2000000 in
theorem big_ev (c : Cl) (hc : okC c) (k : Nat) (hk : k ≤ 10000) (ro : Nat) (m : Mem) (hro : ro ≤ m.length) :
    evL Tryd.prog An ro 34 [.c (encC c), .c (.v (.int .i64 k))] m = some (.c (.v (.bool (decide (k < sizeC c)))), m) := by
  refine evL_by (n := 10) (by kernel_rfl) rfl fn34 rfl rfl rfl rfl ?_
  have hro1 : ro ≤ m.length + 1 := by omega
  have h := fun ro m hro => weight_ev c hc k hk ro m hro
  have e : decide (((min (sizeC c) (k + 1) : Nat) : Int) > (k : Int)) = decide (k < sizeC c) := by
    congr 1; apply propext; omega
  simp only [go_sem, ↓reduceIte, h, e, hro, hro1]
end Go.Eng
