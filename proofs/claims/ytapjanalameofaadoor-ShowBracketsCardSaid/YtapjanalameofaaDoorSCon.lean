-- own work: an evaluator of the program's code, and what it answers
import Derived.Test.YtapjanalameofaaDoorTab
/- Is a text among texts? The library's functions. -/
set_option maxRecDepth 100000
set_option linter.unusedVariables false
set_option linter.unusedSimpArgs false
namespace Go.Eng
open Go Go.Proofs
set_option maxHeartbeats 2000000 in
theorem sindex_ev (l : List ByteArray) (nm : ByteArray) (hl : l.length ≤ maxLen) (ro : Nat) (m : Mem) :
    evL Tryd.prog An ro 69 [.c (.sl (l.map cS)), .c (.v (.string nm))] m = some (.c (.v (.int .i64 (if idx (isS nm) l < l.length then (idx (isS nm) l : Int) else -1))), m) := by
  rw [maxLen_eq] at hl
  refine evL_by (n := 19) (by kernel_rfl) rfl fn69 rfl rfl rfl rfl ?_
  simp only [go_sem, ↓reduceIte]
  generalize hL : loopW _ _ = L
  have hle := idx_le (isS nm) l
  obtain ⟨i, h1, hE, rfl⟩ := loopW_at hL (fun i : Nat => [(8, .c (.v (.int .i64 i)))]) (fun _ => [] :: m) (fun i => i ≤ idx (isS nm) l) (fun i => i = idx (isS nm) l) (fun i => l.length - i) 0 rfl rfl (by omega) (by
    rintro i h1 hE
    obtain ⟨x, hx⟩ : ∃ x, l[i]? = some x := ⟨_, List.getElem?_eq_getElem (by omega)⟩
    have c1 : decide ((i : Int) < (l.length : Int)) = true := dec_t (by omega)
    have c3 : IntKind.i64.wrap ((i : Int) + 1) = ((i + 1 : Nat) : Int) := wrap64 (by omega) (by omega)
    have c2 := idx_not (isS nm) l i x (by omega) hx
    unfold isS at c2
    rw [beqS_comm] at c2
    refine ⟨i + 1, by omega, by omega, ?_⟩
    rw [round_go]
    simp only [go_sem, ↓reduceIte, c1, c2, c3, hx])
  clear hL
  subst hE
  rw [loopW_go]
  by_cases hi : idx (isS nm) l < l.length
  · obtain ⟨x, hx⟩ : ∃ x, l[idx (isS nm) l]? = some x := ⟨_, List.getElem?_eq_getElem hi⟩
    have c1 : decide ((idx (isS nm) l : Int) < (l.length : Int)) = true := dec_t (by omega)
    have c2 := idx_is (isS nm) l x hx
    unfold isS at c2
    rw [beqS_comm] at c2
    rw [if_pos hi]
    simp only [go_sem, ↓reduceIte, c1, c2, hx]
  · have c1 : decide ((idx (isS nm) l : Int) < (l.length : Int)) = false := dec_f (by omega)
    rw [if_neg hi]
    simp only [go_sem, ↓reduceIte, c1]
set_option maxHeartbeats 2000000 in
theorem scontains_ev (l : List ByteArray) (nm : ByteArray) (hl : l.length ≤ maxLen) (ro : Nat) (m : Mem) :
    evL Tryd.prog An ro 41 [.c (.sl (l.map cS)), .c (.v (.string nm))] m = some (.c (.v (.bool (l.any (isS nm)))), m) := by
  refine evL_by (n := 9) (by kernel_rfl) rfl fn41 rfl rfl rfl rfl ?_
  have h := fun ro m => sindex_ev l nm hl ro m
  rw [← idx_any]
  by_cases hi : idx (isS nm) l < l.length
  · have c : decide ((idx (isS nm) l : Int) ≥ 0) = true := dec_t (by omega)
    rw [dec_t hi]
    rw [if_pos hi] at h
    simp only [go_sem, ↓reduceIte, h, c]
  · rw [dec_f hi]
    rw [if_neg hi] at h
    simp only [go_sem, ↓reduceIte, h]
    rfl
end Go.Eng
