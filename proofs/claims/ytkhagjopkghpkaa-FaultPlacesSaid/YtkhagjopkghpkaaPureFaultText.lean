/-
  Lines of a text, no program in sight: what stands behind the last newline, what the reference gathers of a line.
-/
import Derived.Test.YtkhagjopkghpkaaPureBase
import Derived.Lib.LastIndexByte
import Derived.Lib.IndexMore
import Derived.Lib.IndexLaws
namespace Go.Proofs.Ytkhagjopkghpkaa.Pure
set_option linter.unusedVariables false
set_option linter.unusedSimpArgs false

/-- How many bytes stand up to the last newline, it too. -/
def lastGo : List UInt8 → Nat → Nat → Nat
  | [], _, b => b
  | c :: t, i, b => if c = 10 then lastGo t (i + 1) (i + 1) else lastGo t (i + 1) b
def lastNL (l : List UInt8) : Nat := lastGo l 0 0
theorem lastGo_snoc (c : UInt8) : ∀ (l : List UInt8) (i b : Nat), lastGo (l ++ [c]) i b = if c = 10 then i + l.length + 1 else lastGo l i b
  | [], i, b => by simp [lastGo]
  | x :: l, i, b => by
    rw [List.cons_append, lastGo, lastGo]
    by_cases h : x = 10
    · rw [if_pos h, if_pos h, lastGo_snoc c l]; simp only [List.length_cons]; congr 1; omega
    · rw [if_neg h, if_neg h, lastGo_snoc c l]; simp only [List.length_cons]; congr 1; omega
theorem lastNL_snoc (l : List UInt8) (c : UInt8) : lastNL (l ++ [c]) = if c = 10 then l.length + 1 else lastNL l := by
  unfold lastNL
  rw [lastGo_snoc, Nat.zero_add]
theorem lastNL_len (l : List UInt8) : lastNL l ≤ l.length := by
  unfold lastNL
  suffices h : ∀ (l : List UInt8) (i b : Nat), b ≤ i → lastGo l i b ≤ i + l.length by simpa using h l 0 0 (Nat.le_refl _)
  intro l
  induction l with
  | nil => intro i b h; simp [lastGo]; exact h
  | cons c l ih =>
    intro i b h
    rw [lastGo]
    split
    · have := ih (i + 1) (i + 1) (Nat.le_refl _); simp; omega
    · have := ih (i + 1) b (by omega); simp; omega
/-- What the reference gathers of a line, the number of the line it stands in given. -/
def outGo (line : Int) : List UInt8 → Int → List UInt8
  | [], _ => []
  | c :: t, n => if c = 10 then outGo line t (n + 1) else if n = line then c :: outGo line t n else outGo line t n
theorem outGo_over (line : Int) : ∀ (l : List UInt8) (n : Int), line < n → outGo line l n = []
  | [], n, _ => rfl
  | c :: l, n, h => by
    rw [outGo]
    by_cases e : c = 10
    · rw [if_pos e, outGo_over line l (n + 1) (by omega)]
    · rw [if_neg e, if_neg (by omega), outGo_over line l n h]
theorem outGo_at (line : Int) : ∀ l : List UInt8, outGo line l line = l.takeWhile fun c => c != 10
  | [] => rfl
  | c :: l => by
    rw [outGo]
    by_cases e : c = 10
    · rw [if_pos e, outGo_over line l _ (by omega), List.takeWhile_cons_of_neg (by simp [e])]
    · rw [if_neg e, if_pos rfl, outGo_at line l, List.takeWhile_cons_of_pos (by simpa using e)]
theorem outGo_under (line : Int) (R : List UInt8) : ∀ (P : List UInt8) (n : Int), (P = [] ∨ P.getLast? = some 10) → n + (P.count 10 : Int) = line → outGo line (P ++ R) n = outGo line R line
  | [], n, _, h => by
    simp at h
    rw [List.nil_append, h]
  | c :: P, n, hP, h => by
    have hl : (c :: P).getLast? = some 10 := by rcases hP with h | h; exact absurd h (by simp); exact h
    rw [List.cons_append, outGo]
    by_cases e : c = 10
    · rw [if_pos e]
      have hP' : P = [] ∨ P.getLast? = some 10 := by
        cases P with
        | nil => exact .inl rfl
        | cons d P => right; rw [List.getLast?_cons_cons] at hl; exact hl
      refine outGo_under line R P (n + 1) hP' ?_
      rw [e, List.count_cons_self] at h
      omega
    · rw [if_neg e]
      cases P with
      | nil => simp at hl; exact absurd hl e
      | cons d P =>
        rw [List.getLast?_cons_cons] at hl
        have hm : (10 : UInt8) ∈ d :: P := List.mem_of_getLast? hl
        have hc : 0 < (d :: P).count 10 := List.count_pos_iff.2 hm
        rw [List.count_cons_of_ne (by simpa using e)] at h
        rw [if_neg (by omega)]
        exact outGo_under line R (d :: P) n (.inr hl) h
theorem nl_iff (c : UInt8) : ((c.toNat : Int) = 10) ↔ c = 10 := by
  constructor
  · intro h
    exact UInt8.toNat_inj.1 (by show c.toNat = 10; omega)
  · rintro rfl; rfl
theorem lastIdx_nl (s : ByteArray) : ∀ k, k ≤ s.size → Lib.lastIdx s 10 k + 1 = (lastNL (s.data.toList.take k) : Int)
  | 0, _ => rfl
  | k + 1, h => by
    have hz : s.data.toList.length = s.size := Array.length_toList
    have hk : k < s.data.toList.length := by omega
    have hk2 : k < s.data.size := by rw [← Array.length_toList]; exact hk
    rw [Lib.lastIdx, List.take_succ_eq_append_getElem hk, lastNL_snoc, List.length_take]
    have e : s.data[k]! = s.data.toList[k] := by rw [getElem!_pos s.data k hk2]; rfl
    rw [e]
    by_cases hc : s.data.toList[k] = 10
    · rw [if_pos ((nl_iff _).2 hc), if_pos hc]; omega
    · rw [if_neg (fun hh => hc ((nl_iff _).1 hh)), if_neg hc]
      exact lastIdx_nl s k (by omega)
theorem lastIndex_nl (s : ByteArray) : Lib.lastIndexByte s 10 + 1 = (lastNL s.data.toList : Int) := by
  have := lastIdx_nl s s.size (Nat.le_refl _)
  have hz : s.data.toList.length = s.size := Array.length_toList
  rw [← hz, List.take_length, hz] at this
  exact this
theorem lastNL_spec (l : List UInt8) : ∀ n, n ≤ l.length → ((l.take n).take (lastNL (l.take n)) = [] ∨ ((l.take n).take (lastNL (l.take n))).getLast? = some 10) ∧ ((l.take n).take (lastNL (l.take n))).count 10 = (l.take n).count 10
  | 0, _ => by simp
  | n + 1, h => by
    have hn : n < l.length := by omega
    obtain ⟨i1, i2⟩ := lastNL_spec l n (by omega)
    have hl : (l.take n).length = n := by rw [List.length_take]; omega
    rw [List.take_succ_eq_append_getElem hn, lastNL_snoc, hl]
    by_cases e : l[n] = 10
    · rw [if_pos e, List.take_of_length_le (by rw [List.length_append, hl]; simp), e]
      exact ⟨.inr (by simp), rfl⟩
    · have hle : lastNL (l.take n) ≤ (l.take n).length := by
        have := lastNL_len (l.take n)
        exact this
      rw [if_neg e, List.take_append_of_le_length hle, List.count_append, i2]
      exact ⟨i1, by rw [List.count_singleton, if_neg (by simpa using e)]; rfl⟩
theorem idx_take : ∀ l : List UInt8, (Lib.indexByte l 10 = -1 ∧ l.takeWhile (fun c => c != 10) = l) ∨ ∃ n : Nat, Lib.indexByte l 10 = n ∧ n < l.length ∧ l.takeWhile (fun c => c != 10) = l.take n
  | [] => .inl ⟨rfl, rfl⟩
  | b :: l => by
    rw [Lib.indexByte]
    by_cases e : b = 10
    · rw [if_pos (by simpa using e), List.takeWhile_cons_of_neg (by simp [e])]
      exact .inr ⟨0, rfl, by simp, rfl⟩
    · rw [if_neg (by simpa using e), List.takeWhile_cons_of_pos (by simpa using e)]
      rcases idx_take l with ⟨h1, h2⟩ | ⟨n, h1, h2, h3⟩
      · rw [if_pos (by rw [h1]; rfl), h2]; exact .inl ⟨rfl, rfl⟩
      · rw [if_neg (by rw [h1]; simp), h1, h3]
        exact .inr ⟨n + 1, by omega, by simp; omega, rfl⟩
end Go.Proofs.Ytkhagjopkghpkaa.Pure
