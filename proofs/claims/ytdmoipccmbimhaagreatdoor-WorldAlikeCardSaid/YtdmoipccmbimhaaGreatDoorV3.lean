-- own work: an evaluator of the program's code, and what it answers
import Derived.Test.YtdmoipccmbimhaaGreatDoorVA
/- Which texts are words, and which names may be: the reference's functions. -/
set_option maxRecDepth 100000
set_option linter.unusedVariables false
set_option linter.unusedSimpArgs false
namespace Go.Eng
open Go Go.Proofs
def wordsR : List ByteArray := [⟨#[116, 114, 117, 101]⟩, ⟨#[102, 97, 108, 115, 101]⟩, ⟨#[115, 111, 114, 116]⟩, ⟨#[102, 117, 110]⟩, ⟨#[112, 114, 101, 100]⟩, ⟨#[97, 120, 105, 111, 109]⟩, ⟨#[116, 104, 101, 111, 114, 101, 109]⟩, ⟨#[112, 114, 111, 111, 102]⟩, ⟨#[113, 101, 100]⟩, ⟨#[97, 115]⟩, ⟨#[98, 97, 99, 107]⟩, ⟨#[105, 110, 116, 114, 111]⟩, ⟨#[115, 112, 108, 105, 116]⟩, ⟨#[108, 101, 102, 116]⟩, ⟨#[114, 105, 103, 104, 116]⟩, ⟨#[101, 120, 97, 99, 116]⟩, ⟨#[97, 115, 115, 117, 109, 101]⟩, ⟨#[97, 112, 112, 108, 121]⟩, ⟨#[119, 105, 116, 110, 101, 115, 115]⟩, ⟨#[99, 97, 115, 101, 115]⟩, ⟨#[104, 97, 118, 101]⟩, ⟨#[99, 111, 110, 116, 114, 97]⟩, ⟨#[114, 101, 102, 108]⟩, ⟨#[115, 119, 97, 112]⟩, ⟨#[112, 114, 111, 112]⟩, ⟨#[97, 114, 105, 116, 104]⟩, ⟨#[109, 105, 120, 101, 100]⟩, ⟨#[97, 117, 116, 111]⟩, ⟨#[99, 111, 110, 103, 114]⟩, ⟨#[116, 114, 121]⟩, ⟨#[108, 111, 111, 112]⟩, ⟨#[101, 97, 99, 104]⟩, ⟨#[115, 107, 105, 112]⟩, ⟨#[102, 97, 105, 108]⟩]
theorem wordsR_list : wordList = wordsR.map fun x => x.data.toList := rfl
theorem wordsR_any (s : ByteArray) : wordsR.any (isS s) = wordL s.data.toList := by
  have h : ∀ l : List ByteArray, l.any (isS s) = (l.map fun x => x.data.toList).contains s.data.toList := by
    intro l
    induction l with
    | nil => rfl
    | cons x r ih =>
      have e : isS s x = (s.data.toList == x.data.toList) := by
        unfold isS beqS
        rw [Lib.toList_data, Lib.toList_data, Bool.eq_iff_iff, beq_iff_eq, beq_iff_eq]
        exact eq_comm
      rw [List.any_cons, List.map_cons, List.contains_cons, ih, e]
  rw [h]
  unfold wordL
  rw [wordsR_list]
set_option maxHeartbeats 2000000 in
theorem rword_ev (s : ByteArray) (ro : Nat) (m : Mem) : evL Tryz.prog An ro 154 [.c (.v (.string s))] m = some (.c (.v (.bool (wordL s.data.toList))), m) := by
  have hh := fun ro m => has_ev wordsR s (by rw [maxLen_eq]; decide) ro m
  rw [wordsR_any] at hh
  simp only [wordsR, List.map_cons, List.map_nil, cS] at hh
  refine evL_by (n := 8) (by kernel_rfl) rfl fn154 rfl rfl rfl rfl ?_
  simp only [go_sem, ↓reduceIte, hh]
def nameS (s : ByteArray) : Bool := nameL s.data.toList && !wordL s.data.toList
set_option maxHeartbeats 2000000 in
theorem rname_ev (s : ByteArray) (hs : s.size ≤ maxLen) (ro : Nat) (m : Mem) : evL Tryz.prog An ro 113 [.c (.v (.string s))] m = some (.c (.v (.bool (nameS s))), m) := by
  refine evL_by (n := 10) (by kernel_rfl) rfl fn113 rfl rfl rfl rfl ?_
  have h := bname_ev s hs
  unfold nameS
  cases h1 : nameL s.data.toList <;> rw [h1] at h <;> simp only [go_sem, ↓reduceIte, h, rword_ev]
end Go.Eng
