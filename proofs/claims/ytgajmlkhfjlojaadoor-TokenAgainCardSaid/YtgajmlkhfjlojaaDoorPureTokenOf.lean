/-
  Proved: the tokens of any text, or the first error and its place, are what the document says.
-/
import Derived.Test.YtgajmlkhfjlojaaDoorPureToken2
import Derived.Test.YtgajmlkhfjlojaaDoorPrint8
namespace Go.Proofs.YtgajmlkhfjlojaaDoor.Pure
set_option linter.unusedVariables false
set_option linter.unusedSimpArgs false
open Go.RowKit Go.Proofs.YtgajmlkhfjlojaaDoor.Print Go.Proofs.YtgajmlkhfjlojaaDoor.Spec Go.Proofs.YtgajmlkhfjlojaaDoor.Aux Go.Proofs.YtgajmlkhfjlojaaDoorW.PrintWords Go.Proofs.YtgajmlkhfjlojaaDoorW.PrintLast Go.Proofs.YtgajmlkhfjlojaaDoorW.PrintMore

theorem ofGo_length : ∀ (n : Nat) (l : List UInt8) (p : Nat) (acc : List S30), (ofGo n l p acc).1.length ≤ acc.length + n
  | 0, l, p, acc => by simp [ofGo]
  | n + 1, [], p, acc => by simp [ofGo]
  | n + 1, c :: l, p, acc => by
    rw [ofGo]
    split
    · refine Nat.le_trans (ofGo_length n _ _ _) ?_
      simp; omega
    · simp
theorem ofS_length (s : ByteArray) : (ofS s).1.length ≤ 65536 := by
  unfold ofS
  split
  · simp
  · have := ofGo_length s.size (s.data.toList.drop (blankG false s.data.toList)) (blankG false s.data.toList) []
    simp at this; omega
theorem TokenOf : sequiturlaw03_TokenOf.Pure := by
  rintro s hs
  refine Ev.rounds (g := fun k => sequiturlaw03_TokenOf.f k s) ?_
  have hl := ofS_length s
  obtain ⟨K1, e1⟩ : ∃ K, ∀ k, K ≤ k → sequiturlaw03_alive.f k = some true := alive_ev
  obtain ⟨K2, e2⟩ : ∃ K, ∀ k, K ≤ k → token_Of.f k s = some (ofS s) := of_ev s
  obtain ⟨K3, e3⟩ : ∃ K, ∀ k, K ≤ k → sequiturref03_Of.f k s = some (ofS s) := refOf_ev s
  obtain ⟨K4, e4⟩ : ∃ K, ∀ k, K ≤ k → sequiturbase_Tokens.f k (ofS s).1 (ofS s).1 = some true := tokens_ev _ (by omega)
  refine ⟨K1 + K2 + K3 + K4, fun k hk => ?_⟩
  show sequiturlaw03_TokenOf.f k s = some true
  rw [sequiturlaw03_TokenOf.f, e1 k (by omega), Option.bind_some, if_pos rfl]
  by_cases h : (s.size : Int) > 600
  · rw [if_pos h]
  · rw [if_neg h, e2 k (by omega), Option.bind_some, e3 k (by omega), Option.bind_some, e4 k (by omega), Option.bind_some, if_pos rfl, if_pos rfl]
    simp
end Go.Proofs.YtgajmlkhfjlojaaDoor.Pure
