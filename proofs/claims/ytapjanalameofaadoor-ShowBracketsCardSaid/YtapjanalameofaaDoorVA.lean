-- own work: an evaluator of the program's code, and what it answers
import Derived.Test.YtapjanalameofaaDoorTab
import Derived.Test.YtapjanalameofaaDoorRB
/- Package token: which bytes may stand in a name, and which texts are names. -/
set_option maxRecDepth 100000
set_option linter.unusedVariables false
set_option linter.unusedSimpArgs false
namespace Go.Eng
open Go Go.Proofs
set_option maxHeartbeats 4000000 in
theorem letter_ev (c : Int) (ro : Nat) (m : Mem) : evL Tryd.prog An ro 85 [.c (.v (.int .u8 c))] m = some (.c (.v (.bool (letterI c))), m) := by
  refine evL_by (n := 21) (by kernel_rfl) rfl fn85 rfl rfl rfl rfl ?_
  unfold letterI
  have e5 : (c == 95) = decide (c = 95) := rfl
  cases h1 : decide (65 ≤ c) <;> cases h2 : decide (c ≤ 90) <;> cases h3 : decide (97 ≤ c) <;> cases h4 : decide (c ≤ 122) <;> cases h5 : decide (c = 95) <;>
    simp only [go_sem, ↓reduceIte, ge_iff_le, e5, h1, h2, h3, h4, h5]
set_option maxHeartbeats 4000000 in
theorem digit_ev (c : Int) (ro : Nat) (m : Mem) : evL Tryd.prog An ro 94 [.c (.v (.int .u8 c))] m = some (.c (.v (.bool (digitI c))), m) := by
  refine evL_by (n := 9) (by kernel_rfl) rfl fn94 rfl rfl rfl rfl ?_
  unfold digitI
  cases h1 : decide (48 ≤ c) <;> cases h2 : decide (c ≤ 57) <;>
    simp only [go_sem, ↓reduceIte, ge_iff_le, h1, h2]
set_option maxHeartbeats 4000000 in
theorem inner_ev (c : Int) (ro : Nat) (m : Mem) : evL Tryd.prog An ro 87 [.c (.v (.int .u8 c))] m = some (.c (.v (.bool (innerI c))), m) := by
  refine evL_by (n := 13) (by kernel_rfl) rfl fn87 rfl rfl rfl rfl ?_
  unfold innerI
  have e5 : (c == 39) = decide (c = 39) := rfl
  cases h1 : letterI c <;> cases h2 : digitI c <;> cases h3 : decide (c = 39) <;>
    simp only [go_sem, ↓reduceIte, letter_ev, digit_ev, e5, h1, h2, h3]
theorem ba_get (s : ByteArray) (i : Nat) : s[i]? = s.data.toList[i]? := by
  rw [Array.getElem?_toList]; rfl
/-- how many bytes at the head may stand in a name -/
def innerN (s : ByteArray) : Nat := idx (fun b => !innerI (b2i b)) s.data.toList
set_option maxHeartbeats 4000000 in
theorem run_ev (s : ByteArray) (hs : s.size ≤ maxLen) (ro : Nat) (m : Mem) : evL Tryd.prog An ro 86 [.c (.v (.string s)), .c (.v (.int .i64 0)), .c (.fn (.func 87) [])] m = some (.c (.v (.int .i64 (innerN s))), m) := by
  rw [maxLen_eq] at hs
  have hsz : s.size = s.data.toList.length := by rw [Array.length_toList]; rfl
  refine evL_by (n := 25) (by kernel_rfl) rfl fn86 rfl rfl rfl rfl ?_
  simp only [go_sem, ↓reduceIte]
  generalize hL : loopW _ _ = L
  have hle := idx_le (fun b => !innerI (b2i b)) s.data.toList
  obtain ⟨i, h1, hE, rfl⟩ := loopW_at hL (fun i : Nat => [(7, .c (.v (.int .i64 i)))]) (fun _ => [] :: m) (fun i => i ≤ innerN s) (fun i => i = innerN s) (fun i => s.size - i) 0 rfl rfl (by omega) (by
    rintro i h1 hE
    unfold innerN at h1 hE
    obtain ⟨x, hx⟩ : ∃ x, s.data.toList[i]? = some x := ⟨_, List.getElem?_eq_getElem (by omega)⟩
    have c1 : decide ((i : Int) < (s.size : Int)) = true := dec_t (by omega)
    have c3 : IntKind.i64.wrap ((i : Int) + 1) = ((i + 1 : Nat) : Int) := wrap64 (by omega) (by omega)
    have c2 := idx_not (fun b => !innerI (b2i b)) s.data.toList i x (by omega) hx
    have c2' : innerI (x.toNat : Int) = true := by simpa [b2i] using c2
    refine ⟨i + 1, by unfold innerN; omega, by omega, ?_⟩
    rw [round_go]
    simp only [go_sem, ↓reduceIte, c1, c2', c3, ba_get, hx, inner_ev])
  clear hL
  subst hE
  rw [loopW_go]
  have c4 : IntKind.i64.wrap ((innerN s : Int) - 0) = (innerN s : Int) := (wrap64 (by unfold innerN; omega) (by unfold innerN; omega)).trans (by omega)
  by_cases hi : innerN s < s.data.toList.length
  · obtain ⟨x, hx⟩ : ∃ x, s.data.toList[innerN s]? = some x := ⟨_, List.getElem?_eq_getElem hi⟩
    have c1 : decide ((innerN s : Int) < (s.size : Int)) = true := dec_t (by omega)
    have c2 := idx_is (fun b => !innerI (b2i b)) s.data.toList x hx
    have c2' : innerI (x.toNat : Int) = false := by simpa [b2i] using c2
    simp only [go_sem, ↓reduceIte, c1, c2', c4, ba_get, hx, inner_ev]
  · have c1 : decide ((innerN s : Int) < (s.size : Int)) = false := dec_f (by omega)
    simp only [go_sem, ↓reduceIte, c1, c4]
end Go.Eng
/- Which texts are names: the program's function and the reference's. -/
set_option maxRecDepth 100000
set_option linter.unusedVariables false
set_option linter.unusedSimpArgs false
namespace Go.Eng
open Go Go.Proofs
theorem size_list (s : ByteArray) : s.data.toList.length = s.size := Array.length_toList
theorem beqS_empty (s : ByteArray) : beqS s ByteArray.empty = decide (s.size = 0) := by
  have hz := size_list s
  unfold beqS
  rw [Lib.toList_data, Lib.toList_data]
  show (s.data.toList == ([] : List UInt8)) = _
  rw [Bool.eq_iff_iff, beq_iff_eq, decide_eq_true_eq, ← hz, List.length_eq_zero_iff]
theorem idx_take {α : Type} (p : α → Bool) : ∀ l : List α, idx (fun x => !p x) l = (l.takeWhile p).length
  | [] => rfl
  | x :: r => by
    have ih := idx_take p r
    rw [List.takeWhile_cons]
    cases h : p x
    · simp [idx, h]
    · simp [idx, h, ih]
set_option maxHeartbeats 4000000 in
theorem name_ev (s : ByteArray) (hs : s.size ≤ maxLen) (ro : Nat) (m : Mem) : evL Tryd.prog An ro 78 [.c (.v (.string s))] m = some (.c (.v (.bool (nameL s.data.toList))), m) := by
  have hz := size_list s
  refine evL_by (n := 22) (by kernel_rfl) rfl fn78 rfl rfl rfl rfl ?_
  have e0 := beqS_empty s
  by_cases h0 : s.size = 0
  · rw [nameL_no _ (.inl (by omega))]
    rw [dec_t h0] at e0
    simp only [go_sem, ↓reduceIte, e0]
  · rw [dec_f h0] at e0
    by_cases h32 : s.size ≤ 32
    · have d : decide ((s.size : Int) ≤ 32) = true := dec_t (by omega)
      obtain ⟨x, hx⟩ : ∃ x, s.data.toList[0]? = some x := ⟨_, List.getElem?_eq_getElem (by omega)⟩
      have hx' := List.getElem?_eq_some_iff.1 hx
      cases hl : letterI (x.toNat : Int) with
      | false =>
        rw [nameL_no _ (.inr (.inr fun h => by rw [hx'.2]; exact hl))]
        simp only [go_sem, ↓reduceIte, e0, d, ba_get, hx, letter_ev, hl]
      | true =>
        have hn := nameL_short s.data.toList (by omega) (by omega) (by rw [hx'.2]; exact hl)
        unfold runL at hn
        rw [← idx_take (fun c => innerI (b2i c)), hz] at hn
        have hr := run_ev s hs
        unfold innerN at hr
        rw [← hn]
        simp only [go_sem, ↓reduceIte, e0, d, ba_get, hx, letter_ev, hl, hr]
    · rw [nameL_no _ (.inr (.inl (by omega)))]
      have d : decide ((s.size : Int) ≤ 32) = false := dec_f (by omega)
      simp only [go_sem, ↓reduceIte, e0, d]
/-- where the reference's round over a name stops -/
def stopN : List UInt8 → Nat
  | [] => 0
  | c :: r => if letterI (b2i c) then 1 + idx (fun b => !innerI (b2i b)) r else 0
theorem stop_le (l : List UInt8) : stopN l ≤ l.length := by
  cases l with
  | nil => exact Nat.le_refl _
  | cons c r =>
    have := idx_le (fun b => !innerI (b2i b)) r
    simp only [stopN, List.length_cons]
    split <;> omega
theorem stop_not {l : List UInt8} {i : Nat} {x : UInt8} (h : i < stopN l) (hx : l[i]? = some x) : letterI (x.toNat : Int) = true ∨ (0 < i ∧ innerI (x.toNat : Int) = true) := by
  cases l with
  | nil => simp at hx
  | cons c r =>
    simp only [stopN] at h
    split at h
    · rename_i hc
      cases i with
      | zero => simp at hx; subst hx; exact .inl hc
      | succ i =>
        have := idx_not (fun b => !innerI (b2i b)) r i x (by omega) (by simpa using hx)
        exact .inr ⟨by omega, by simpa [b2i] using this⟩
    · omega
theorem stop_is {l : List UInt8} {x : UInt8} (hx : l[stopN l]? = some x) : letterI (x.toNat : Int) = false ∧ (stopN l = 0 ∨ innerI (x.toNat : Int) = false) := by
  cases l with
  | nil => simp at hx
  | cons c r =>
    by_cases hc : letterI (b2i c) = true
    · have e : stopN (c :: r) = 1 + idx (fun b => !innerI (b2i b)) r := by simp [stopN, hc]
      rw [e, Nat.add_comm] at hx
      have := idx_is (fun b => !innerI (b2i b)) r x (by simpa using hx)
      have hi : innerI (x.toNat : Int) = false := by simpa [b2i] using this
      refine ⟨?_, .inr hi⟩
      unfold innerI at hi
      cases hl : letterI (x.toNat : Int)
      · rfl
      · simp [hl] at hi
    · have e : stopN (c :: r) = 0 := by simp [stopN, hc]
      rw [e] at hx ⊢
      simp at hx
      subst hx
      exact ⟨by simpa [b2i] using hc, .inl rfl⟩
theorem idx_full {α : Type} (p : α → Bool) : ∀ l : List α, decide (idx (fun x => !p x) l = l.length) = l.all p
  | [] => rfl
  | x :: r => by
    have ih := idx_full p r
    cases h : p x
    · simp [idx, h]
    · rw [List.all_cons, h, Bool.true_and, ← ih]; simp [idx, h]
theorem stop_name (l : List UInt8) : nameL l = (decide (stopN l = l.length) && (decide (0 < l.length) && decide (l.length ≤ 32))) := by
  cases l with
  | nil => rfl
  | cons c r =>
    have := idx_full (fun b => innerI (b2i b)) r
    have e1 : decide (1 + idx (fun x => !innerI (b2i x)) r = r.length + 1) = decide (idx (fun x => !innerI (b2i x)) r = r.length) := by rw [decide_eq_decide]; omega
    have e2 : decide (r.length + 1 ≤ 32) = decide (r.length < 32) := by rw [decide_eq_decide]; omega
    have e3 : decide (0 < r.length + 1) = true := dec_t (by omega)
    by_cases hc : letterI (b2i c) = true
    · have e : stopN (c :: r) = 1 + idx (fun b => !innerI (b2i b)) r := by simp [stopN, hc]
      rw [e, nameL, ← this, List.length_cons, e1, e2, e3, hc, Bool.true_and, Bool.and_true, Bool.and_comm]
    · have e : stopN (c :: r) = 0 := by simp [stopN, hc]
      have hc' : letterI (b2i c) = false := by simpa using hc
      rw [e, nameL, hc', List.length_cons, dec_f (by omega : ¬ 0 = r.length + 1), Bool.and_false, Bool.false_and, Bool.false_and]
theorem letter_three {c : Int} (h : letterI c = true) : (65 ≤ c ∧ c ≤ 90) ∨ (97 ≤ c ∧ c ≤ 122) ∨ c = 95 := by
  simpa [letterI, or_assoc] using h
theorem inner_five {c : Int} (h : innerI c = true) : (65 ≤ c ∧ c ≤ 90) ∨ (97 ≤ c ∧ c ≤ 122) ∨ c = 95 ∨ (48 ≤ c ∧ c ≤ 57) ∨ c = 39 := by
  simpa [innerI, digitI, letterI, or_assoc] using h
theorem letter_no {c : Int} (h : letterI c = false) : c < 65 ∨ (90 < c ∧ c < 97 ∧ c ≠ 95) ∨ 122 < c := by
  simp [letterI] at h
  omega
theorem inner_no {c : Int} (h : innerI c = false) : c < 39 ∨ (39 < c ∧ c < 48) ∨ (57 < c ∧ c < 65) ∨ (90 < c ∧ c < 97 ∧ c ≠ 95) ∨ 122 < c := by
  simp [innerI, digitI, letterI] at h
  omega
theorem beq_t {a b : Int} (h : a = b) : (a == b) = true := by simpa using h
theorem bneI_t {a b : Int} (h : a ≠ b) : (a != b) = true := by simpa using h
theorem bneI_f {a b : Int} (h : a = b) : (a != b) = false := by simpa using h
theorem beq_f {a b : Int} (h : a ≠ b) : (a == b) = false := by simpa using h
set_option maxHeartbeats 16000000 in
theorem bname_ev (s : ByteArray) (hs : s.size ≤ maxLen) (ro : Nat) (m : Mem) : evL Tryd.prog An ro 80 [.c (.v (.string s))] m = some (.c (.v (.bool (nameL s.data.toList))), m) := by
  have hz := size_list s
  rw [maxLen_eq] at hs
  have hle := stop_le s.data.toList
  rw [stop_name]
  refine evL_by (n := 71) (by kernel_rfl) rfl fn80 rfl rfl rfl rfl ?_
  simp only [go_sem, ↓reduceIte]
  generalize hL : loopW _ _ = L
  obtain ⟨i, h1, hE, rfl⟩ := loopW_at hL (fun i : Nat => [(3, .c (.v (.int .i64 i)))]) (fun _ => [] :: m) (fun i => i ≤ stopN s.data.toList) (fun i => i = stopN s.data.toList) (fun i => s.size - i) 0 rfl rfl (by omega) (by
    rintro i h1 hE
    obtain ⟨x, hx⟩ : ∃ x, s.data.toList[i]? = some x := ⟨_, List.getElem?_eq_getElem (by omega)⟩
    have c1 : decide ((i : Int) < (s.size : Int)) = true := dec_t (by omega)
    have c3 : IntKind.i64.wrap ((i : Int) + 1) = ((i + 1 : Nat) : Int) := wrap64 (by omega) (by omega)
    have c2 := stop_not (by omega) hx
    refine ⟨i + 1, by omega, by omega, ?_⟩
    rw [round_go]
    generalize hc : (x.toNat : Int) = c at c2
    have c2' : ((65 ≤ c ∧ c ≤ 90) ∨ (97 ≤ c ∧ c ≤ 122) ∨ c = 95) ∨ (0 < i ∧ ((48 ≤ c ∧ c ≤ 57) ∨ c = 39)) := by
      rcases c2 with h | ⟨h, h2⟩
      · exact .inl (letter_three h)
      · have := inner_five h2; omega
    rcases c2' with (⟨q1, q2⟩ | ⟨q1, q2⟩ | q1) | ⟨q0, ⟨q1, q2⟩ | q1⟩
    all_goals
      (first | have d1 : decide (65 ≤ c) = true := dec_t (by omega) | have d1 : decide (65 ≤ c) = false := dec_f (by omega))
      (first | have d2 : decide (c ≤ 90) = true := dec_t (by omega) | have d2 : decide (c ≤ 90) = false := dec_f (by omega))
      (first | have d3 : decide (97 ≤ c) = true := dec_t (by omega) | have d3 : decide (97 ≤ c) = false := dec_f (by omega))
      (first | have d4 : decide (c ≤ 122) = true := dec_t (by omega) | have d4 : decide (c ≤ 122) = false := dec_f (by omega))
      (first | have d5 : (c == 95) = true := beq_t (by omega) | have d5 : (c == 95) = false := beq_f (by omega))
      (first | have d6 : (c != 39) = true := bneI_t (by omega) | have d6 : (c != 39) = false := bneI_f (by omega))
      (first | have d7 : decide (c < 48) = true := dec_t (by omega) | have d7 : decide (c < 48) = false := dec_f (by omega))
      (first | have d8 : decide (57 < c) = true := dec_t (by omega) | have d8 : decide (57 < c) = false := dec_f (by omega))
      (first | have d9 : ((i : Int) == 0) = false := beq_f (by omega) | have d9 : True := trivial)
      simp only [go_sem, ↓reduceIte, ge_iff_le, gt_iff_lt, c1, c3, ba_get, hx, hc, d1, d2, d3, d4, d5, d6, d7, d8, d9])
  clear hL
  subst hE
  rw [loopW_go]
  generalize hN : stopN s.data.toList = N at *
  by_cases hi : N < s.data.toList.length
  · obtain ⟨x, hx⟩ : ∃ x, s.data.toList[N]? = some x := ⟨_, List.getElem?_eq_getElem hi⟩
    have c1 : decide ((N : Int) < (s.size : Int)) = true := dec_t (by omega)
    have c2 := stop_is (by rw [hN]; exact hx)
    rw [hN] at c2
    rw [dec_f (by omega : ¬ N = s.data.toList.length)]
    generalize hc : (x.toNat : Int) = c at c2
    have c2' : (N = 0 ∧ (c < 65 ∨ (90 < c ∧ c < 97 ∧ c ≠ 95) ∨ 122 < c)) ∨ (N ≠ 0 ∧ (c < 39 ∨ (39 < c ∧ c < 48) ∨ (57 < c ∧ c < 65) ∨ (90 < c ∧ c < 97 ∧ c ≠ 95) ∨ 122 < c)) := by
      obtain ⟨k1, k2⟩ := c2
      by_cases h0 : N = 0
      · exact .inl ⟨h0, letter_no k1⟩
      · exact .inr ⟨h0, inner_no (k2.resolve_left h0)⟩
    rcases c2' with ⟨q0, q1 | ⟨q1, q2, q3⟩ | q1⟩ | ⟨q0, q1 | ⟨q1, q2⟩ | ⟨q1, q2⟩ | ⟨q1, q2, q3⟩ | q1⟩
    all_goals
      (first | have d1 : decide (65 ≤ c) = true := dec_t (by omega) | have d1 : decide (65 ≤ c) = false := dec_f (by omega))
      (first | have d2 : decide (c ≤ 90) = true := dec_t (by omega) | have d2 : decide (c ≤ 90) = false := dec_f (by omega))
      (first | have d3 : decide (97 ≤ c) = true := dec_t (by omega) | have d3 : decide (97 ≤ c) = false := dec_f (by omega))
      (first | have d4 : decide (c ≤ 122) = true := dec_t (by omega) | have d4 : decide (c ≤ 122) = false := dec_f (by omega))
      (first | have d5 : (c == 95) = true := beq_t (by omega) | have d5 : (c == 95) = false := beq_f (by omega))
      (first | have d6 : (c != 39) = true := bneI_t (by omega) | have d6 : (c != 39) = false := bneI_f (by omega) | have d6 : True := trivial)
      (first | have d7 : decide (c < 48) = true := dec_t (by omega) | have d7 : decide (c < 48) = false := dec_f (by omega) | have d7 : True := trivial)
      (first | have d8 : decide (57 < c) = true := dec_t (by omega) | have d8 : decide (57 < c) = false := dec_f (by omega) | have d8 : True := trivial)
      (first | have d9 : ((N : Int) == 0) = false := beq_f (by omega) | have d9 : ((N : Int) == 0) = true := beq_t (by omega))
      simp only [go_sem, ↓reduceIte, ge_iff_le, gt_iff_lt, c1, ba_get, hx, hc, d1, d2, d3, d4, d5, d6, d7, d8, d9]
  · have c1 : decide ((N : Int) < (s.size : Int)) = false := dec_f (by omega)
    rw [dec_t (by omega : N = s.data.toList.length), hz]
    by_cases h0 : 0 < s.size
    · have d1 : decide (0 < (s.size : Int)) = true := dec_t (by omega)
      have d2 : decide ((s.size : Int) ≤ 32) = decide (s.size ≤ 32) := by rw [decide_eq_decide]; omega
      rw [dec_t h0]
      simp only [go_sem, ↓reduceIte, gt_iff_lt, c1, d1, d2]
    · have d1 : decide (0 < (s.size : Int)) = false := dec_f (by omega)
      rw [dec_f h0]
      simp only [go_sem, ↓reduceIte, gt_iff_lt, c1, d1]
end Go.Eng
