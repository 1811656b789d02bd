/-
  Proved: which texts are names, and words, and what the signs are, is what the document says.
-/
import Derived.Test.YtgajmlkhfjlojaaDoorPureToken2
import Derived.Test.YtgajmlkhfjlojaaDoorPrint14
import Derived.Test.YtgajmlkhfjlojaaDoorPrint15
namespace Go.Proofs.YtgajmlkhfjlojaaDoor.Pure
set_option linter.unusedVariables false
set_option linter.unusedSimpArgs false
open Go.RowKit Go.Proofs.YtgajmlkhfjlojaaDoor.Print Go.Proofs.YtgajmlkhfjlojaaDoor.Spec Go.Proofs.YtgajmlkhfjlojaaDoor.Aux Go.Proofs.YtgajmlkhfjlojaaDoorW.PrintWords Go.Proofs.YtgajmlkhfjlojaaDoorW.PrintLast Go.Proofs.YtgajmlkhfjlojaaDoorW.PrintMore

theorem strings_loop (l : List ByteArray) (hl : l.length ≤ 1000000) : ∀ (d i : Nat), i + d = l.length → Ev (fun k => sequiturbase_Strings.l0 k l l i) true
  | 0, i, h => by
    refine Ev.step (f := fun _ => some true) (fun k => ?_) (Ev.now _)
    simp only [sequiturbase_Strings.l0]; rw [if_neg (by omega)]
  | d + 1, i, h => by
    refine Ev.step (fun k => ?_) (strings_loop l hl d (i + 1) (by omega))
    simp only [sequiturbase_Strings.l0]
    rw [if_pos (by omega), if_pos (by omega), if_pos (by omega), wrap_succ i (by omega)]
    simp only [if_true]
theorem strings_ev (l : List ByteArray) (hl : l.length ≤ 1000000) : Ev (fun k => sequiturbase_Strings.f k l l) true := Ev.pos rfl (strings_loop l hl l.length 0 (by omega))
theorem hasB_words (s : ByteArray) : hasB (wordList.map fun l => (⟨l.toArray⟩ : ByteArray)) s = wordL s.data.toList := by
  unfold hasB wordL
  rw [List.any_map, List.contains_eq_any_beq]
  congr 1
  funext l
  simp only [Function.comp]
  rw [Bool.eq_iff_iff, decide_eq_true_eq, beq_iff_eq, ← ba_data]
  constructor
  · intro h; rw [← h]
  · intro h; rw [h]
theorem refWord_ev (s : ByteArray) : Ev (fun k => sequiturref03_Word.f k s) (wordL s.data.toList) := by
  unfold sequiturref03_Word.f
  refine Ev.bind (a := wordL s.data.toList) ?_ (Ev.now _)
  exact Ev.get (has_ev _ s (by unfold maxLen; decide)) (show hasB (wordList.map fun l => (⟨l.toArray⟩ : ByteArray)) s = _ from hasB_words s)
theorem refName_ev (s : ByteArray) (hs : s.size ≤ maxLen) : Ev (fun k => sequiturref03_Name.f k s) (nameL s.data.toList) := Ev.bind (name_ev s hs) (Ev.now _)
theorem word_name (l : List UInt8) (h : wordL l = true) : nameL l = true := by
  have h1 : ∀ x ∈ wordList, nameL x = true := by decide +kernel
  unfold wordL at h
  exact h1 l (by simpa using h)
theorem TokenWords : sequiturlaw03_TokenWords.Pure := by
  rintro s hs
  refine Ev.rounds (g := fun k => sequiturlaw03_TokenWords.f k s) ?_
  obtain ⟨K1, e1⟩ : ∃ K, ∀ k, K ≤ k → sequiturlaw03_alive.f k = some true := alive_ev
  obtain ⟨K2, e2⟩ : ∃ K, ∀ k, K ≤ k → sequiturref03_Name.f k s = some (nameL s.data.toList) := refName_ev s hs
  obtain ⟨K3, e3⟩ : ∃ K, ∀ k, K ≤ k → sequiturref03_Word.f k s = some (wordL s.data.toList) := refWord_ev s
  obtain ⟨K4, e4⟩ : ∃ K, ∀ k, K ≤ k → sequiturbase_Strings.f k signsB signsB = some true := strings_ev signsB (by decide)
  have e5 : token_Name.f s = some (nameL s.data.toList) := rfl
  refine ⟨K1 + K2 + K3 + K4, fun k hk => ?_⟩
  show sequiturlaw03_TokenWords.f k s = some true
  rw [sequiturlaw03_TokenWords.f, e1 k (by omega), Option.bind_some, if_pos rfl]
  by_cases h : (s.size : Int) > 300
  · rw [if_pos h]
  · have e6 : token_Word.f s = some (wordL s.data.toList) := by
      unfold token_Word.f
      rw [if_pos (by omega)]
    have hw := word_name s.data.toList
    rw [if_neg h, e5, Option.bind_some, e2 k (by omega), Option.bind_some, if_pos (by simp), e6, Option.bind_some, e3 k (by omega), Option.bind_some, if_pos (by simp), Option.bind_some]
    by_cases hwt : wordL s.data.toList = true
    · rw [if_pos hwt, Option.bind_some, if_pos (hw hwt), signs_f, Option.bind_some, refSigns_f, Option.bind_some, e4 k (by omega)]; rfl
    · rw [if_neg hwt, signs_f, Option.bind_some, refSigns_f, Option.bind_some, e4 k (by omega)]; rfl
end Go.Proofs.YtgajmlkhfjlojaaDoor.Pure
