-- own work: an evaluator of the program's code, and what it answers
import Derived.Test.YtapjanalameofaaDoorTab
set_option maxRecDepth 100000
set_option linter.unusedVariables false
set_option linter.unusedSimpArgs false
namespace Go.Eng
open Go Go.Proofs
set_option maxHeartbeats 1000000 in
theorem size_ev (t : Tm) (ht : okT t) (n : Nat) (hn : n ≤ 100000) (ro : Nat) (m : Mem) :
    evL Tryd.prog An ro 9 [.c (encT t), .c (.v (.int .i64 n))] m = some (.c (.v (.int .i64 (min (sizeT t) (n + 1) : Nat))), m) := by
  induction hd : SizeOf.sizeOf t using Nat.strongRecOn generalizing t n ro m with
  | _ d ih =>
  have hlen := ht.len
  rw [maxLen_eq] at hlen
  refine evL_by (n := 31) (by kernel_rfl) rfl fn9 rfl rfl rfl rfl ?_
  simp only [go_sem, ↓reduceIte]
  generalize hL : loopW _ _ = L
  obtain ⟨i, hI, hE, rfl⟩ := loopW_at hL (fun i : Nat => [(5, .c (.v (.int .i64 (min (1 + sizeTs (t.l.take i)) (n + 1) : Nat)))), (6, .c (.v (.int .i64 i)))])
    (fun _ => [] :: m) (fun i => i ≤ t.l.length) (fun i => i = t.l.length ∨ n < 1 + sizeTs (t.l.take i)) (fun i => t.l.length - i) 0 (by simp [sets, sizeTs]) rfl (by omega) (by
    rintro i h1 hE
    simp only [not_or, Nat.not_lt] at hE
    obtain ⟨h2, h3⟩ := hE
    obtain ⟨x, hx⟩ : ∃ x, t.l[i]? = some x := ⟨_, List.getElem?_eq_getElem (by omega)⟩
    have c1 : decide ((i : Int) < (t.l.length : Int)) = true := dec_t (by omega)
    have c2 : decide (((min (1 + sizeTs (t.l.take i)) (n + 1) : Nat) : Int) ≤ (n : Int)) = true := dec_t (by omega)
    have c3 : IntKind.i64.wrap ((i : Int) + 1) = ((i + 1 : Nat) : Int) := wrap64 (by omega) (by omega)
    have c4 : IntKind.i64.wrap ((n : Int) - ((min (1 + sizeTs (t.l.take i)) (n + 1) : Nat) : Int)) = ((n - (1 + sizeTs (t.l.take i)) : Nat) : Int) := (wrap64 (by omega) (by omega)).trans (by omega)
    have hmem : x ∈ t.l := List.mem_of_getElem? hx
    have hc := fun ro m => ih _ (by have := Tm.lt hmem; omega) x (ht.arg hmem) (n - (1 + sizeTs (t.l.take i))) (by omega) ro m rfl
    have hs := sizeTs_take _ _ _ hx
    have c5 : IntKind.i64.wrap (((min (1 + sizeTs (t.l.take i)) (n + 1) : Nat) : Int) + ((min (sizeT x) (n - (1 + sizeTs (t.l.take i)) + 1) : Nat) : Int)) = ((min (1 + sizeTs (t.l.take (i + 1))) (n + 1) : Nat) : Int) := (wrap64 (by omega) (by omega)).trans (by omega)
    refine ⟨i + 1, by omega, by omega, ?_⟩
    rw [round_go]
    simp only [go_sem, ↓reduceIte, c1, c2, c3, c4, hx, hc, c5])
  clear hL
  have hle := sizeTs_le t.l i
  have hz := sizeT_eq t
  rw [loopW_go]
  by_cases hi : i = t.l.length
  · subst hi
    have c1 : decide ((t.l.length : Int) < (t.l.length : Int)) = false := dec_f (by omega)
    simp only [go_sem, ↓reduceIte, c1]
    rw [List.take_length, ← hz]
  · have c1 : decide ((i : Int) < (t.l.length : Int)) = true := dec_t (by omega)
    have c2 : decide (((min (1 + sizeTs (t.l.take i)) (n + 1) : Nat) : Int) ≤ (n : Int)) = false := dec_f (by omega)
    simp only [go_sem, ↓reduceIte, c1, c2]
    have : min (1 + sizeTs (t.l.take i)) (n + 1) = min (sizeT t) (n + 1) := by omega
    rw [this]
end Go.Eng
