-- own work: an evaluator of the program's code, and what it answers
import Derived.Test.YtdmoipccmbimhaaGreatDoorRA
import Derived.Test.YtdmoipccmbimhaaGreatDoorWellA
set_option maxRecDepth 100000
set_option linter.unusedVariables false
set_option linter.unusedSimpArgs false
namespace Go.Eng
open Go Go.Proofs
set_option maxHeartbeats 4000000 in
theorem rdepthC_ev (c : Cl) (hc : okC c) (k : Nat) (hk : k ≤ 1000) (ro : Nat) (m : Mem) (hro : ro ≤ m.length) :
    evL Tryz.prog An ro 54 [.c (encC c), .c (.v (.int .i64 k))] m = some (.c (.v (.int .i64 (min (depC c) (k + 1) : Nat))), m) := by
  induction hd : SizeOf.sizeOf c using Nat.strongRecOn generalizing c k ro m with
  | _ d ih =>
  have hlen := hc.len.2
  have hz := depC_eq c
  have hro1 : ro ≤ m.length + 1 := by omega
  rw [maxLen_eq] at hlen
  refine evL_by (n := 31) (by kernel_rfl) rfl fn54 rfl rfl rfl rfl ?_
  simp only [go_sem, ↓reduceIte]
  generalize hL : loopW _ _ = L
  obtain ⟨i, k1, hE, rfl⟩ := loopW_at hL (fun i : Nat => [(5, .c (.v (.int .i64 (min (depCs (c.ss.take i) + 1) (k + 1) : Nat)))), (6, .c (.v (.int .i64 i)))]) (fun _ => [] :: m) (fun i => i ≤ c.ss.length) (fun i => i = c.ss.length ∨ k < depCs (c.ss.take i) + 1) (fun i => c.ss.length - i) 0
    (by simp [sets, depCs]) rfl (by omega) (by
    rintro i k1 hE
    simp only [not_or, Nat.not_lt] at hE
    obtain ⟨k2, k3⟩ := hE
    obtain ⟨x, hx⟩ : ∃ x, c.ss[i]? = some x := ⟨_, List.getElem?_eq_getElem (by omega)⟩
    have c1 : decide ((i : Int) < (c.ss.length : Int)) = true := dec_t (by omega)
    have c2 : decide (((min (depCs (c.ss.take i) + 1) (k + 1) : Nat) : Int) ≤ (k : Int)) = true := dec_t (by omega)
    have c3 : IntKind.i64.wrap ((i : Int) + 1) = ((i + 1 : Nat) : Int) := wrap64 (by omega) (by omega)
    have c4 : IntKind.i64.wrap ((k : Int) - 1) = ((k - 1 : Nat) : Int) := (wrap64 (by omega) (by omega)).trans (by omega)
    have hmem := List.mem_of_getElem? hx
    have hsub := fun ro m hro => ih _ (by have := Cl.lt hmem; omega) x (hc.arg.2 x hmem) (k - 1) (by omega) ro m hro rfl
    have htk := depCs_take _ _ _ hx
    have hk1 : k - 1 + 1 = k := by omega
    rw [hk1] at hsub
    have c5 : IntKind.i64.wrap (1 + ((min (depC x) k : Nat) : Int)) = ((1 + min (depC x) k : Nat) : Int) := (wrap64 (by omega) (by omega)).trans (by omega)
    have c6 : (if ((1 + min (depC x) k : Nat) : Int) > ((min (depCs (c.ss.take i) + 1) (k + 1) : Nat) : Int) then ((1 + min (depC x) k : Nat) : Int) else ((min (depCs (c.ss.take i) + 1) (k + 1) : Nat) : Int)) = ((min (depCs (c.ss.take (i + 1)) + 1) (k + 1) : Nat) : Int) := by
      split <;> omega
    refine ⟨i + 1, by omega, by omega, ?_⟩
    rw [round_go]
    simp only [go_sem, ↓reduceIte, c1, c2, c3, c4, c5, c6, hx, hsub, hro, hro1])
  clear hL
  rw [loopW_go]
  by_cases hi : i = c.ss.length
  · subst hi
    have c1 : decide ((c.ss.length : Int) < (c.ss.length : Int)) = false := dec_f (by omega)
    simp only [go_sem, ↓reduceIte, c1]
    rw [List.take_length, ← hz]
  · have hb := hE.resolve_left hi
    have c1 : decide ((i : Int) < (c.ss.length : Int)) = true := dec_t (by omega)
    have c2 : decide (((min (depCs (c.ss.take i) + 1) (k + 1) : Nat) : Int) ≤ (k : Int)) = false := dec_f (by omega)
    have hle : depCs (c.ss.take i) ≤ depCs c.ss := by
      have := depCs_append (c.ss.take i) (c.ss.drop i)
      rw [List.take_append_drop] at this; omega
    have e : min (depCs (c.ss.take i) + 1) (k + 1) = min (depC c) (k + 1) := by omega
    rw [e] at c2 ⊢
    simp only [go_sem, ↓reduceIte, c1, c2]
end Go.Eng
