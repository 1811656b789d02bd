-- own work: an evaluator of the program's code, and what it answers
import Derived.Test.YtdmoipccmbimhaaGreatDoorTab
import Derived.Test.YtdmoipccmbimhaaGreatDoorWellA
/- Package token: which bytes may stand in a name, and which texts are names. -/
set_option maxRecDepth 100000
set_option linter.unusedVariables false
set_option linter.unusedSimpArgs false
namespace Go.Eng
open Go Go.Proofs
set_option maxHeartbeats 4000000 in
theorem letter_ev (c : Int) (ro : Nat) (m : Mem) : evL Tryz.prog An ro 166 [.c (.v (.int .u8 c))] m = some (.c (.v (.bool (letterI c))), m) := by
  refine evL_by (n := 21) (by kernel_rfl) rfl fn166 rfl rfl rfl rfl ?_
  unfold letterI
  have e5 : (c == 95) = decide (c = 95) := rfl
  cases h1 : decide (65 ≤ c) <;> cases h2 : decide (c ≤ 90) <;> cases h3 : decide (97 ≤ c) <;> cases h4 : decide (c ≤ 122) <;> cases h5 : decide (c = 95) <;>
    simp only [go_sem, ↓reduceIte, ge_iff_le, e5, h1, h2, h3, h4, h5]
set_option maxHeartbeats 4000000 in
theorem digit_ev (c : Int) (ro : Nat) (m : Mem) : evL Tryz.prog An ro 174 [.c (.v (.int .u8 c))] m = some (.c (.v (.bool (digitI c))), m) := by
  refine evL_by (n := 9) (by kernel_rfl) rfl fn174 rfl rfl rfl rfl ?_
  unfold digitI
  cases h1 : decide (48 ≤ c) <;> cases h2 : decide (c ≤ 57) <;>
    simp only [go_sem, ↓reduceIte, ge_iff_le, h1, h2]
set_option maxHeartbeats 4000000 in
theorem inner_ev (c : Int) (ro : Nat) (m : Mem) : evL Tryz.prog An ro 168 [.c (.v (.int .u8 c))] m = some (.c (.v (.bool (innerI c))), m) := by
  refine evL_by (n := 13) (by kernel_rfl) rfl fn168 rfl rfl rfl rfl ?_
  unfold innerI
  have e5 : (c == 39) = decide (c = 39) := rfl
  cases h1 : letterI c <;> cases h2 : digitI c <;> cases h3 : decide (c = 39) <;>
    simp only [go_sem, ↓reduceIte, letter_ev, digit_ev, e5, h1, h2, h3]
theorem ba_get (s : ByteArray) (i : Nat) : s[i]? = s.data.toList[i]? := by
  rw [Array.getElem?_toList]; rfl
/-- how many bytes at the head may stand in a name -/
def innerN (s : ByteArray) : Nat := idx (fun b => !innerI (b2i b)) s.data.toList
set_option maxHeartbeats 4000000 in
theorem run_ev (s : ByteArray) (hs : s.size ≤ maxLen) (ro : Nat) (m : Mem) : evL Tryz.prog An ro 167 [.c (.v (.string s)), .c (.v (.int .i64 0)), .c (.fn (.func 168) [])] m = some (.c (.v (.int .i64 (innerN s))), m) := by
  rw [maxLen_eq] at hs
  have hsz : s.size = s.data.toList.length := by rw [Array.length_toList]; rfl
  refine evL_by (n := 25) (by kernel_rfl) rfl fn167 rfl rfl rfl rfl ?_
  simp only [go_sem, ↓reduceIte]
  generalize hL : loopW _ _ = L
  have hle := idx_le (fun b => !innerI (b2i b)) s.data.toList
  obtain ⟨i, h1, hE, rfl⟩ := loopW_at hL (fun i : Nat => [(7, .c (.v (.int .i64 i)))]) (fun _ => [] :: m) (fun i => i ≤ innerN s) (fun i => i = innerN s) (fun i => s.size - i) 0 rfl rfl (by omega) (by
    rintro i h1 hE
    unfold innerN at h1 hE
    obtain ⟨x, hx⟩ : ∃ x, s.data.toList[i]? = some x := ⟨_, List.getElem?_eq_getElem (by omega)⟩
    have c1 : decide ((i : Int) < (s.size : Int)) = true := dec_t (by omega)
    have c3 : IntKind.i64.wrap ((i : Int) + 1) = ((i + 1 : Nat) : Int) := wrap64 (by omega) (by omega)
    have c2 := idx_not (fun b => !innerI (b2i b)) s.data.toList i x (by omega) hx
    have c2' : innerI (x.toNat : Int) = true := by simpa [b2i] using c2
    refine ⟨i + 1, by unfold innerN; omega, by omega, ?_⟩
    rw [round_go]
    simp only [go_sem, ↓reduceIte, c1, c2', c3, ba_get, hx, inner_ev])
  clear hL
  subst hE
  rw [loopW_go]
  have c4 : IntKind.i64.wrap ((innerN s : Int) - 0) = (innerN s : Int) := (wrap64 (by unfold innerN; omega) (by unfold innerN; omega)).trans (by omega)
  by_cases hi : innerN s < s.data.toList.length
  · obtain ⟨x, hx⟩ : ∃ x, s.data.toList[innerN s]? = some x := ⟨_, List.getElem?_eq_getElem hi⟩
    have c1 : decide ((innerN s : Int) < (s.size : Int)) = true := dec_t (by omega)
    have c2 := idx_is (fun b => !innerI (b2i b)) s.data.toList x hx
    have c2' : innerI (x.toNat : Int) = false := by simpa [b2i] using c2
    simp only [go_sem, ↓reduceIte, c1, c2', c4, ba_get, hx, inner_ev]
  · have c1 : decide ((innerN s : Int) < (s.size : Int)) = false := dec_f (by omega)
    simp only [go_sem, ↓reduceIte, c1, c4]
end Go.Eng
