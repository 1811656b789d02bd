-- own work: an evaluator of the program's code, and what it answers
import Derived.Test.YtdmoipccmbimhaaGreatDoorEngC
/- The plain words of the layers token, sorts and sign, and what three functions told by hand answer. No program in sight. -/
set_option linter.unusedVariables false
set_option linter.unusedSimpArgs false
namespace Go.Eng
open Go
/-- May a byte begin a name? -/
def letterI (c : Int) : Bool := (decide (65 ≤ c) && decide (c ≤ 90)) || (decide (97 ≤ c) && decide (c ≤ 122)) || decide (c = 95)
def digitI (c : Int) : Bool := decide (48 ≤ c) && decide (c ≤ 57)
def innerI (c : Int) : Bool := letterI c || digitI c || decide (c = 39)
/-- A byte of a list, as a number. -/
def b2i (c : UInt8) : Int := (c.toNat : Int)
/-- How many bytes at the head are so. -/
def runL (p : Int → Bool) (l : List UInt8) : Nat := (l.takeWhile fun c => p (b2i c)).length
/-- Is a text a name? -/
def nameL : List UInt8 → Bool
  | [] => false
  | c :: l => decide (l.length < 32) && letterI (b2i c) && l.all fun c => innerI (b2i c)

/-- The words, byte by byte: true false sort fun pred axiom theorem proof qed as back intro split left right exact assume apply witness cases have contra refl swap prop arith mixed auto congr try loop each skip fail. -/
def wordList : List (List UInt8) := [[116, 114, 117, 101], [102, 97, 108, 115, 101], [115, 111, 114, 116], [102, 117, 110], [112, 114, 101, 100], [97, 120, 105, 111, 109], [116, 104, 101, 111, 114, 101, 109], [112, 114, 111, 111, 102], [113, 101, 100], [97, 115], [98, 97, 99, 107], [105, 110, 116, 114, 111], [115, 112, 108, 105, 116], [108, 101, 102, 116], [114, 105, 103, 104, 116], [101, 120, 97, 99, 116], [97, 115, 115, 117, 109, 101], [97, 112, 112, 108, 121], [119, 105, 116, 110, 101, 115, 115], [99, 97, 115, 101, 115], [104, 97, 118, 101], [99, 111, 110, 116, 114, 97], [114, 101, 102, 108], [115, 119, 97, 112], [112, 114, 111, 112], [97, 114, 105, 116, 104], [109, 105, 120, 101, 100], [97, 117, 116, 111], [99, 111, 110, 103, 114], [116, 114, 121], [108, 111, 111, 112], [101, 97, 99, 104], [115, 107, 105, 112], [102, 97, 105, 108]]
/-- All words in one text, a blank between two. -/
def wordText : List UInt8 := [116, 114, 117, 101, 32, 102, 97, 108, 115, 101, 32, 115, 111, 114, 116, 32, 102, 117, 110, 32, 112, 114, 101, 100, 32, 97, 120, 105, 111, 109, 32, 116, 104, 101, 111, 114, 101, 109, 32, 112, 114, 111, 111, 102, 32, 113, 101, 100, 32, 97, 115, 32, 98, 97, 99, 107, 32, 105, 110, 116, 114, 111, 32, 115, 112, 108, 105, 116, 32, 108, 101, 102, 116, 32, 114, 105, 103, 104, 116, 32, 101, 120, 97, 99, 116, 32, 97, 115, 115, 117, 109, 101, 32, 97, 112, 112, 108, 121, 32, 119, 105, 116, 110, 101, 115, 115, 32, 99, 97, 115, 101, 115, 32, 104, 97, 118, 101, 32, 99, 111, 110, 116, 114, 97, 32, 114, 101, 102, 108, 32, 115, 119, 97, 112, 32, 112, 114, 111, 112, 32, 97, 114, 105, 116, 104, 32, 109, 105, 120, 101, 100, 32, 97, 117, 116, 111, 32, 99, 111, 110, 103, 114, 32, 116, 114, 121, 32, 108, 111, 111, 112, 32, 101, 97, 99, 104, 32, 115, 107, 105, 112, 32, 102, 97, 105, 108]
/-- Is a text a word? -/
def wordL (l : List UInt8) : Bool := wordList.contains l

theorem takeWhile_all {α : Type} (p : α → Bool) : ∀ l : List α, l.all p = true → l.takeWhile p = l
  | [], _ => rfl
  | a :: l, h => by
    simp only [List.all_cons, Bool.and_eq_true] at h
    rw [List.takeWhile_cons, h.1, if_pos rfl, takeWhile_all p l h.2]
theorem takeWhile_lt {α : Type} (p : α → Bool) : ∀ l : List α, l.all p = false → (l.takeWhile p).length < l.length
  | [], h => by simp at h
  | a :: l, h => by
    rw [List.takeWhile_cons]
    cases ha : p a
    · simp
    · rw [List.all_cons, ha, Bool.true_and] at h
      have := takeWhile_lt p l h
      simp; omega
theorem nameL_short : ∀ (l : List UInt8) (h0 : 0 < l.length), l.length ≤ 32 → letterI (b2i (l[0]'h0)) = true → (((runL innerI l : Nat) : Int) == (l.length : Int)) = nameL l
  | [], h0, _, _ => absurd h0 (by simp)
  | c :: l, _, h1, h2 => by
    simp only [List.getElem_cons_zero, List.length_cons] at h1 h2
    have hi : innerI (b2i c) = true := by simp [innerI, h2]
    simp only [runL, nameL, h2, Bool.and_true, show decide (l.length < 32) = true by simp; omega, Bool.true_and, List.takeWhile_cons, hi, if_true, List.length_cons]
    cases ha : (l.all fun c => innerI (b2i c))
    · have := takeWhile_lt _ _ ha
      rw [beq_eq_false_iff_ne]; omega
    · rw [takeWhile_all _ _ ha]; simp
theorem nameL_no : ∀ (l : List UInt8), (l.length = 0 ∨ 32 < l.length ∨ ∀ h0 : 0 < l.length, letterI (b2i (l[0]'h0)) = false) → nameL l = false
  | [], _ => rfl
  | c :: l, h => by
    simp only [List.getElem_cons_zero, List.length_cons] at h
    rcases h with h | h | h
    · omega
    · simp [nameL, show ¬ l.length < 32 by omega]
    · simp [nameL, h (by omega)]
theorem bne_nil (l : List UInt8) : (l != []) = !l.isEmpty := by cases l <;> rfl
def wordQ : List C → Option V
  | [.v (.string s)] => if s.size ≤ 9223372036854775807 then some (.c (.v (.bool (wordL s.data.toList)))) else none
  | _ => none
end Go.Eng
