-- own work: an evaluator of the program's code, and what it answers
import Derived.Test.YtapjanalameofaaDoorTab
set_option maxRecDepth 100000
set_option linter.unusedVariables false
set_option linter.unusedSimpArgs false
namespace Go.Eng
open Go Go.Proofs
set_option maxHeartbeats 1000000 in
theorem has_ev (l : List ByteArray) (nm : ByteArray) (hl : l.length ≤ maxLen) (ro : Nat) (m : Mem) :
    evL Tryd.prog An ro 20 [.c (.sl (l.map cS)), .c (.v (.string nm))] m = some (.c (.v (.bool (l.any (isS nm)))), m) := by
  rw [maxLen_eq] at hl
  rw [← idx_any]
  refine evL_by (n := 18) (by kernel_rfl) rfl fn20 rfl rfl rfl rfl ?_
  simp only [go_sem, ↓reduceIte]
  generalize hL : loopW _ _ = L
  have hle := idx_le (isS nm) l
  obtain ⟨i, h1, hE, rfl⟩ := loopW_at hL (fun i : Nat => [(5, .c (.v (.int .i64 i)))]) (fun _ => [] :: m) (fun i => i ≤ idx (isS nm) l) (fun i => i = idx (isS nm) l) (fun i => l.length - i) 0 rfl rfl (by omega) (by
    rintro i h1 hE
    obtain ⟨x, hx⟩ : ∃ x, l[i]? = some x := ⟨_, List.getElem?_eq_getElem (by omega)⟩
    have c1 : decide ((i : Int) < (l.length : Int)) = true := dec_t (by omega)
    have c3 : IntKind.i64.wrap ((i : Int) + 1) = ((i + 1 : Nat) : Int) := wrap64 (by omega) (by omega)
    have c2 := idx_not (isS nm) l i x (by omega) hx
    unfold isS at c2
    refine ⟨i + 1, by omega, by omega, ?_⟩
    rw [round_go]
    simp only [go_sem, ↓reduceIte, c1, c2, c3, hx])
  clear hL
  subst hE
  rw [loopW_go]
  by_cases hi : idx (isS nm) l < l.length
  · obtain ⟨x, hx⟩ : ∃ x, l[idx (isS nm) l]? = some x := ⟨_, List.getElem?_eq_getElem hi⟩
    have c1 : decide ((idx (isS nm) l : Int) < (l.length : Int)) = true := dec_t (by omega)
    have c2 := idx_is (isS nm) l x hx
    unfold isS at c2
    rw [dec_t hi]
    simp only [go_sem, ↓reduceIte, c1, c2, hx]
  · have c1 : decide ((idx (isS nm) l : Int) < (l.length : Int)) = false := dec_f (by omega)
    rw [dec_f hi]
    simp only [go_sem, ↓reduceIte, c1]
end Go.Eng
