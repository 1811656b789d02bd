-- own work: an evaluator of the program's code, and what it answers
import Derived.Test.YtapjanalameofaaDoorHC
/- The law of terms' texts. -/
set_option maxRecDepth 100000
set_option linter.unusedVariables false
set_option linter.unusedSimpArgs false
namespace Go.Eng
open Go Go.Proofs
set_option maxHeartbeats 1000000 in
theorem sTerm_ev (t : Tm) (ht : TermOK t) (ro : Nat) (m : Mem) (hro : ro ≤ m.length) :
    evL Tryd.prog An ro 13 [.c (encT t)] m = some (.c (.v (.string (txtT [] t))), m) := by
  refine evL_by (n := 5) (by kernel_rfl) rfl fn13 rfl rfl rfl rfl ?_
  have hro1 : ro ≤ m.length + 1 := by omega
  have h := fun ro m hro => stext_ev [] ⟨by simp, fun s hs => by cases hs⟩ t ht ro m hro
  simp only [List.map_nil] at h
  simp only [go_sem, ↓reduceIte, h, hro, hro1]
set_option maxHeartbeats 1000000 in
theorem rTerm_ev (t : Tm) (ht : TermOK t) (ro : Nat) (m : Mem) (hro : ro ≤ m.length) :
    evL Tryd.prog An ro 14 [.c (encT t)] m = some (.c (.v (.string (txtT [] t))), m) := by
  refine evL_by (n := 5) (by kernel_rfl) rfl fn14 rfl rfl rfl rfl ?_
  have hro1 : ro ≤ m.length + 1 := by omega
  have h := fun ro m hro => rterm_ev [] ⟨by simp, fun s hs => by cases hs⟩ t ht ro m hro
  simp only [List.map_nil] at h
  simp only [go_sem, ↓reduceIte, h, hro, hro1]
set_option maxHeartbeats 4000000 in
theorem showTerms_ev (t : Tm) (ht : okT t) :
    evL Tryd.prog An 0 3 [.c (encT t)] [] = some (.c (.v (.bool true)), []) := by
  refine evL_by (n := 25) (by kernel_rfl) rfl fn3 rfl rfl rfl rfl ?_
  have ha := fun fr => alive_ev fr 0 (.inl rfl)
  have ha1 := fun fr => alive_ev fr 1 (.inr rfl)
  have hz := fun ro m => size_ev t ht 300 (by omega) ro m
  have hr := fun ro m => tRight_ev t ht ro m
  have hs := fun ro m hro => short_ev t ht ro m hro
  have e3 : ((300 : Nat) : Int) = 300 := rfl
  simp only [e3] at hz
  by_cases h1 : sizeT t ≤ 300
  case neg =>
    have c1 : decide (((min (sizeT t) (300 + 1) : Nat) : Int) > 300) = true := dec_t (by omega)
    simp only [go_sem, ↓reduceIte, c1, hz, ha]
  have c1 : decide (((min (sizeT t) (300 + 1) : Nat) : Int) > 300) = false := dec_f (by omega)
  by_cases h2 : rightT t = 0
  case neg =>
    have c2 : (rightT t != 0) = true := by simpa using h2
    simp only [go_sem, ↓reduceIte, c1, c2, hz, hr, ha]
  rw [h2] at hr
  have c2 : ((0 : Int) != 0) = false := rfl
  cases h3 : shortT t with
  | false =>
    rw [h3] at hs
    simp only [go_sem, ↓reduceIte, c1, c2, hz, hr, hs, ha]
  | true =>
    rw [h3] at hs
    have hf : firstT t = 0 := by
      unfold rightT at h2
      split at h2
      · cases h2
      · split at h2
        · cases h2
        · exact h2
    have hok : TermOK t := ⟨ht, hf, h3, by omega⟩
    have q1 := fun ro m hro => sTerm_ev t hok ro m hro
    have q2 := fun ro m hro => rTerm_ev t hok ro m hro
    have d3 : beqS (txtT [] t) (txtT [] t) = true := beqS_self _
    simp only [go_sem, ↓reduceIte, c1, c2, d3, hz, hr, hs, q1, q2, ha1]
end Go.Eng
