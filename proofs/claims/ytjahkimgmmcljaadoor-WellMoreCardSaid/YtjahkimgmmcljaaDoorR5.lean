-- own work: an evaluator of the program's code, and what it answers
import Derived.Test.YtjahkimgmmcljaaDoorR3
set_option maxRecDepth 100000
set_option linter.unusedVariables false
set_option linter.unusedSimpArgs false
namespace Go.Eng
open Go Go.Proofs
set_option maxHeartbeats 4000000 in
theorem rdepthC_ev (c : Cl) (hc : okC c) (k : Nat) (hk : k ≤ 1000) (ro : Nat) (m : Mem) (hro : ro ≤ m.length) :
    evL Tryd.prog An ro 142 [.c (encC c), .c (.v (.int .i64 k))] m = some (.c (.v (.int .i64 (min (depC c) (k + 1) : Nat))), m) := by
  induction hd : SizeOf.sizeOf c using Nat.strongRecOn generalizing c k ro m with
  | _ d ih =>
  have hlen := hc.len.2
  have hz := depC_eq c
  have hro1 : ro ≤ m.length + 1 := by omega
  rw [maxLen_eq] at hlen
  refine evL_by (n := 31) (by kernel_rfl) rfl fn142 rfl rfl rfl rfl ?_
  simp only [go_sem, ↓reduceIte]
  generalize hL : loopW _ _ = L
  obtain ⟨i, k1, hE, rfl⟩ := loopW_at hL (fun i : Nat => [(5, .c (.v (.int .i64 (min (depCs (c.ss.take i) + 1) (k + 1) : Nat)))), (6, .c (.v (.int .i64 i)))]) (fun _ => [] :: m) (fun i => i ≤ c.ss.length) (fun i => i = c.ss.length ∨ k < depCs (c.ss.take i) + 1) (fun i => c.ss.length - i) 0
    (by simp [sets, depCs]) rfl (by omega) (by
    rintro i k1 hE
    simp only [not_or, Nat.not_lt] at hE
    obtain ⟨k2, k3⟩ := hE
    obtain ⟨x, hx⟩ : ∃ x, c.ss[i]? = some x := ⟨_, List.getElem?_eq_getElem (by omega)⟩
    have c1 : decide ((i : Int) < (c.ss.length : Int)) = true := dec_t (by omega)
    have c2 : decide (((min (depCs (c.ss.take i) + 1) (k + 1) : Nat) : Int) ≤ (k : Int)) = true := dec_t (by omega)
    have c3 : IntKind.i64.wrap ((i : Int) + 1) = ((i + 1 : Nat) : Int) := wrap64 (by omega) (by omega)
    have c4 : IntKind.i64.wrap ((k : Int) - 1) = ((k - 1 : Nat) : Int) := (wrap64 (by omega) (by omega)).trans (by omega)
    have hmem := List.mem_of_getElem? hx
    have hsub := fun ro m hro => ih _ (by have := Cl.lt hmem; omega) x (hc.arg.2 x hmem) (k - 1) (by omega) ro m hro rfl
    have htk := depCs_take _ _ _ hx
    have hk1 : k - 1 + 1 = k := by omega
    rw [hk1] at hsub
    have c5 : IntKind.i64.wrap (1 + ((min (depC x) k : Nat) : Int)) = ((1 + min (depC x) k : Nat) : Int) := (wrap64 (by omega) (by omega)).trans (by omega)
    have c6 : (if ((1 + min (depC x) k : Nat) : Int) > ((min (depCs (c.ss.take i) + 1) (k + 1) : Nat) : Int) then ((1 + min (depC x) k : Nat) : Int) else ((min (depCs (c.ss.take i) + 1) (k + 1) : Nat) : Int)) = ((min (depCs (c.ss.take (i + 1)) + 1) (k + 1) : Nat) : Int) := by
      split <;> omega
    refine ⟨i + 1, by omega, by omega, ?_⟩
    rw [round_go]
    simp only [go_sem, ↓reduceIte, c1, c2, c3, c4, c5, c6, hx, hsub, hro, hro1])
  clear hL
  rw [loopW_go]
  by_cases hi : i = c.ss.length
  · subst hi
    have c1 : decide ((c.ss.length : Int) < (c.ss.length : Int)) = false := dec_f (by omega)
    simp only [go_sem, ↓reduceIte, c1]
    rw [List.take_length, ← hz]
  · have hb := hE.resolve_left hi
    have c1 : decide ((i : Int) < (c.ss.length : Int)) = true := dec_t (by omega)
    have c2 : decide (((min (depCs (c.ss.take i) + 1) (k + 1) : Nat) : Int) ≤ (k : Int)) = false := dec_f (by omega)
    have hle : depCs (c.ss.take i) ≤ depCs c.ss := by
      have := depCs_append (c.ss.take i) (c.ss.drop i)
      rw [List.take_append_drop] at this; omega
    have e : min (depCs (c.ss.take i) + 1) (k + 1) = min (depC c) (k + 1) := by omega
    rw [e] at c2 ⊢
    simp only [go_sem, ↓reduceIte, c1, c2]
theorem sizeCs_append (l l2 : List Cl) : sizeCs (l ++ l2) = sizeCs l + sizeCs l2 := by
  induction l with
  | nil => simp [sizeCs]
  | cons x r ih => simp only [List.cons_append, sizeCs, ih]; omega
theorem sizeCs_take (l : List Cl) (i : Nat) (x : Cl) (h : l[i]? = some x) : sizeCs (l.take (i + 1)) = sizeCs (l.take i) + sizeC x := by
  rw [List.take_add_one, h, sizeCs_append]; simp [sizeCs]
theorem sizeCs_le (l : List Cl) (i : Nat) : sizeCs (l.take i) ≤ sizeCs l := by
  have := sizeCs_append (l.take i) (l.drop i)
  rw [List.take_append_drop] at this; omega
theorem sizeC_eqn (c : Cl) : sizeC c = 1 + (sizeTs c.ts + sizeCs c.ss) := by cases c; rw [sizeC]; rfl
set_option maxHeartbeats 8000000 in
theorem weight_ev (c : Cl) (hc : okC c) (k : Nat) (hk : k ≤ 10000) (ro : Nat) (m : Mem) (hro : ro ≤ m.length) :
    evL Tryd.prog An ro 67 [.c (encC c), .c (.v (.int .i64 k))] m = some (.c (.v (.int .i64 (min (sizeC c) (k + 1) : Nat))), m) := by
  induction hd : SizeOf.sizeOf c using Nat.strongRecOn generalizing c k ro m with
  | _ d ih =>
  have hts := hc.len.1
  have hss := hc.len.2
  rw [maxLen_eq] at hts hss
  have hz := sizeC_eqn c
  have hro1 : ro ≤ m.length + 1 := by omega
  refine evL_by (n := 55) (by kernel_rfl) rfl fn67 rfl rfl rfl rfl ?_
  simp only [go_sem, ↓reduceIte]
  generalize hL : loopW _ _ = L
  obtain ⟨i, k1, hE, rfl⟩ := loopW_at hL (fun i : Nat => [(5, .c (.v (.int .i64 (min (1 + sizeTs (c.ts.take i)) (k + 1) : Nat)))), (6, .c (.v (.int .i64 i)))]) (fun _ => [] :: m) (fun i => i ≤ c.ts.length) (fun i => i = c.ts.length ∨ k < 1 + sizeTs (c.ts.take i)) (fun i => c.ts.length - i) 0
    (by simp [sets, sizeTs]) rfl (by omega) (by
    rintro i k1 hE
    simp only [not_or, Nat.not_lt] at hE
    obtain ⟨k2, k3⟩ := hE
    obtain ⟨x, hx⟩ : ∃ x, c.ts[i]? = some x := ⟨_, List.getElem?_eq_getElem (by omega)⟩
    have c1 : decide ((i : Int) < (c.ts.length : Int)) = true := dec_t (by omega)
    have c2 : decide (((min (1 + sizeTs (c.ts.take i)) (k + 1) : Nat) : Int) ≤ (k : Int)) = true := dec_t (by omega)
    have c3 : IntKind.i64.wrap ((i : Int) + 1) = ((i + 1 : Nat) : Int) := wrap64 (by omega) (by omega)
    have c4 : IntKind.i64.wrap ((k : Int) - ((min (1 + sizeTs (c.ts.take i)) (k + 1) : Nat) : Int)) = ((k - (1 + sizeTs (c.ts.take i)) : Nat) : Int) := (wrap64 (by omega) (by omega)).trans (by omega)
    have hsub := fun ro m => size_ev x (hc.arg.1 x (List.mem_of_getElem? hx)) (k - (1 + sizeTs (c.ts.take i))) (by omega) ro m
    have hs := sizeTs_take _ _ _ hx
    have c5 : IntKind.i64.wrap (((min (1 + sizeTs (c.ts.take i)) (k + 1) : Nat) : Int) + ((min (sizeT x) (k - (1 + sizeTs (c.ts.take i)) + 1) : Nat) : Int)) = ((min (1 + sizeTs (c.ts.take (i + 1))) (k + 1) : Nat) : Int) := (wrap64 (by omega) (by omega)).trans (by omega)
    refine ⟨i + 1, by omega, by omega, ?_⟩
    rw [round_go]
    simp only [go_sem, ↓reduceIte, c1, c2, c3, c4, c5, hx, hsub, hro, hro1])
  clear hL
  rw [loopW_go]
  obtain ⟨q, hq⟩ : ∃ q, q = 1 + sizeTs (c.ts.take i) := ⟨_, rfl⟩
  have hqs : min q (k + 1) = min (1 + sizeTs c.ts) (k + 1) := by
    rcases hE with rfl | hE
    · rw [hq, List.take_length]
    · have := sizeTs_le c.ts i; omega
  have c12 : (decide ((i : Int) < (c.ts.length : Int)) = false) ∨ (decide ((i : Int) < (c.ts.length : Int)) = true ∧ decide (((min q (k + 1) : Nat) : Int) ≤ (k : Int)) = false) := by
    by_cases hi : i = c.ts.length
    · exact .inl (dec_f (by omega))
    · exact .inr ⟨dec_t (by omega), dec_f (by have := hE.resolve_left hi; omega)⟩
  rw [← hq]
  have hq1 : 1 ≤ q := by omega
  have hqz : min (q + sizeCs c.ss) (k + 1) = min (sizeC c) (k + 1) := by omega
  clear hE hq hqs
  rcases c12 with c1 | ⟨c1, c2⟩
  · simp only [go_sem, ↓reduceIte, c1]
    generalize hL : loopW _ _ = L
    obtain ⟨j, k2, hE, rfl⟩ := loopW_at hL (fun j : Nat => [(5, .c (.v (.int .i64 (min (q + sizeCs (c.ss.take j)) (k + 1) : Nat)))), (7, .c (.v (.int .i64 j)))]) (fun _ => [] :: m) (fun j => j ≤ c.ss.length) (fun j => j = c.ss.length ∨ k < q + sizeCs (c.ss.take j)) (fun j => c.ss.length - j) 0
      (by simp [sets, sizeCs]) rfl (by omega) (by
      rintro j k2 hE
      simp only [not_or, Nat.not_lt] at hE
      obtain ⟨k3, k4⟩ := hE
      obtain ⟨x, hx⟩ : ∃ x, c.ss[j]? = some x := ⟨_, List.getElem?_eq_getElem (by omega)⟩
      have c1 : decide ((j : Int) < (c.ss.length : Int)) = true := dec_t (by omega)
      have c2 : decide (((min (q + sizeCs (c.ss.take j)) (k + 1) : Nat) : Int) ≤ (k : Int)) = true := dec_t (by omega)
      have c3 : IntKind.i64.wrap ((j : Int) + 1) = ((j + 1 : Nat) : Int) := wrap64 (by omega) (by omega)
      have c4 : IntKind.i64.wrap ((k : Int) - ((min (q + sizeCs (c.ss.take j)) (k + 1) : Nat) : Int)) = ((k - (q + sizeCs (c.ss.take j)) : Nat) : Int) := (wrap64 (by omega) (by omega)).trans (by omega)
      have hmem := List.mem_of_getElem? hx
      have hsub := fun ro m hro => ih _ (by have := Cl.lt hmem; omega) x (hc.arg.2 x hmem) (k - (q + sizeCs (c.ss.take j))) (by omega) ro m hro rfl
      have hs := sizeCs_take _ _ _ hx
      have c5 : IntKind.i64.wrap (((min (q + sizeCs (c.ss.take j)) (k + 1) : Nat) : Int) + ((min (sizeC x) (k - (q + sizeCs (c.ss.take j)) + 1) : Nat) : Int)) = ((min (q + sizeCs (c.ss.take (j + 1))) (k + 1) : Nat) : Int) := (wrap64 (by omega) (by omega)).trans (by omega)
      refine ⟨j + 1, by omega, by omega, ?_⟩
      rw [round_go]
      simp only [go_sem, ↓reduceIte, c1, c2, c3, c4, c5, hx, hsub, hro, hro1])
    clear hL
    rw [loopW_go]
    by_cases hi : j = c.ss.length
    · subst hi
      have d1 : decide ((c.ss.length : Int) < (c.ss.length : Int)) = false := dec_f (by omega)
      rw [List.take_length, hqz]
      simp only [go_sem, ↓reduceIte, d1]
    · have hb := hE.resolve_left hi
      have d1 : decide ((j : Int) < (c.ss.length : Int)) = true := dec_t (by omega)
      have hle := sizeCs_le c.ss j
      have e : min (q + sizeCs (c.ss.take j)) (k + 1) = min (sizeC c) (k + 1) := by omega
      have d2 : decide (((min (sizeC c) (k + 1) : Nat) : Int) ≤ (k : Int)) = false := dec_f (by omega)
      rw [e]
      simp only [go_sem, ↓reduceIte, d1, d2]
  · simp only [go_sem, ↓reduceIte, c1, c2]
    generalize hL : loopW _ _ = L
    obtain ⟨j, k2, hE, rfl⟩ := loopW_at hL (fun j : Nat => [(5, .c (.v (.int .i64 (min (q + sizeCs (c.ss.take j)) (k + 1) : Nat)))), (7, .c (.v (.int .i64 j)))]) (fun _ => [] :: m) (fun j => j ≤ c.ss.length) (fun j => j = c.ss.length ∨ k < q + sizeCs (c.ss.take j)) (fun j => c.ss.length - j) 0
      (by simp [sets, sizeCs]) rfl (by omega) (by
      rintro j k2 hE
      simp only [not_or, Nat.not_lt] at hE
      obtain ⟨k3, k4⟩ := hE
      obtain ⟨x, hx⟩ : ∃ x, c.ss[j]? = some x := ⟨_, List.getElem?_eq_getElem (by omega)⟩
      have c1 : decide ((j : Int) < (c.ss.length : Int)) = true := dec_t (by omega)
      have c2 : decide (((min (q + sizeCs (c.ss.take j)) (k + 1) : Nat) : Int) ≤ (k : Int)) = true := dec_t (by omega)
      have c3 : IntKind.i64.wrap ((j : Int) + 1) = ((j + 1 : Nat) : Int) := wrap64 (by omega) (by omega)
      have c4 : IntKind.i64.wrap ((k : Int) - ((min (q + sizeCs (c.ss.take j)) (k + 1) : Nat) : Int)) = ((k - (q + sizeCs (c.ss.take j)) : Nat) : Int) := (wrap64 (by omega) (by omega)).trans (by omega)
      have hmem := List.mem_of_getElem? hx
      have hsub := fun ro m hro => ih _ (by have := Cl.lt hmem; omega) x (hc.arg.2 x hmem) (k - (q + sizeCs (c.ss.take j))) (by omega) ro m hro rfl
      have hs := sizeCs_take _ _ _ hx
      have c5 : IntKind.i64.wrap (((min (q + sizeCs (c.ss.take j)) (k + 1) : Nat) : Int) + ((min (sizeC x) (k - (q + sizeCs (c.ss.take j)) + 1) : Nat) : Int)) = ((min (q + sizeCs (c.ss.take (j + 1))) (k + 1) : Nat) : Int) := (wrap64 (by omega) (by omega)).trans (by omega)
      refine ⟨j + 1, by omega, by omega, ?_⟩
      rw [round_go]
      simp only [go_sem, ↓reduceIte, c1, c2, c3, c4, c5, hx, hsub, hro, hro1])
    clear hL
    rw [loopW_go]
    by_cases hi : j = c.ss.length
    · subst hi
      have d1 : decide ((c.ss.length : Int) < (c.ss.length : Int)) = false := dec_f (by omega)
      rw [List.take_length, hqz]
      simp only [go_sem, ↓reduceIte, d1]
    · have hb := hE.resolve_left hi
      have d1 : decide ((j : Int) < (c.ss.length : Int)) = true := dec_t (by omega)
      have hle := sizeCs_le c.ss j
      have e : min (q + sizeCs (c.ss.take j)) (k + 1) = min (sizeC c) (k + 1) := by omega
      have d2 : decide (((min (sizeC c) (k + 1) : Nat) : Int) ≤ (k : Int)) = false := dec_f (by omega)
      rw [e]
      simp only [go_sem, ↓reduceIte, d1, d2]
set_option maxHeartbeats 2000000 in
theorem big_ev (c : Cl) (hc : okC c) (k : Nat) (hk : k ≤ 10000) (ro : Nat) (m : Mem) (hro : ro ≤ m.length) :
    evL Tryd.prog An ro 25 [.c (encC c), .c (.v (.int .i64 k))] m = some (.c (.v (.bool (decide (k < sizeC c)))), m) := by
  refine evL_by (n := 10) (by kernel_rfl) rfl fn25 rfl rfl rfl rfl ?_
  have hro1 : ro ≤ m.length + 1 := by omega
  have h := fun ro m hro => weight_ev c hc k hk ro m hro
  have e : decide (((min (sizeC c) (k + 1) : Nat) : Int) > (k : Int)) = decide (k < sizeC c) := by
    congr 1; apply propext; omega
  simp only [go_sem, ↓reduceIte, h, e, hro, hro1]
end Go.Eng
