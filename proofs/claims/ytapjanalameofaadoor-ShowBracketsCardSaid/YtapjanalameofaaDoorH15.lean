-- own work: an evaluator of the program's code, and what it answers
import Derived.Test.YtapjanalameofaaDoorHF
import Derived.Test.YtapjanalameofaaDoorH8
/- The law of claims' texts. -/
set_option maxRecDepth 100000
set_option linter.unusedVariables false
set_option linter.unusedSimpArgs false
namespace Go.Eng
open Go Go.Proofs
set_option maxHeartbeats 4000000 in
theorem sClaim_ev (c : Cl) (hc : ClaimOK c) (ro : Nat) (m : Mem) (hro : ro ≤ m.length) :
    evL Tryd.prog An ro 16 [.c (encC c)] m = some (.c (.v (.string (textC c))), m) := by
  have hz := hc.small
  have hl := namesC_len c
  have h1 := fun (ro : Nat) (hro : ro ≤ m.length) => snames_claim c hc.ok [] none (.inl rfl) m.length 5 ([(5, [.tip none []])] :: m) ro hro (by simp only [List.length_cons]; omega) (by simp only [List.length_nil]; omega)
  have p1 : ∀ b b' : Box, put ([(5, b)] :: m) m.length 5 b' = [(5, b')] :: m := fun b b' => by rw [put_top]; simp [upd]
  simp only [List.map_nil, List.nil_append, p1] at h1
  have h2 := fun (ro : Nat) (hro : ro ≤ m.length + 1) => show_ev (namesC c) (by omega) (osN none (namesC c)) m.length 5 c hc [] (by simp only [List.length_nil]; omega) (fun s hs => by cases hs) 1 (by omega) true ro ([(5, [.tip (osN none (namesC c)) ((namesC c).map cS)])] :: m) (by simpa using hro) (by simp only [List.length_cons]; omega) (by rw [look_top]; simp [lk])
  simp only [List.map_nil] at h2
  have hro1 : ro ≤ m.length + 1 := by omega
  refine evL_by (n := 12) (by kernel_rfl) rfl fn16 rfl rfl rfl rfl ?_
  unfold textC
  generalize osN none (namesC c) = os at h1 h2
  simp only [go_sem, ↓reduceIte, h1, h2, hro, hro1]
set_option maxHeartbeats 4000000 in
theorem rClaim_ev (c : Cl) (hc : ClaimOK c) (ro : Nat) (m : Mem) (hro : ro ≤ m.length) :
    evL Tryd.prog An ro 17 [.c (encC c)] m = some (.c (.v (.string (textC c))), m) := by
  have hz := hc.small
  have hl := namesC_len c
  have h1 := fun ro m => rnames_claim c hc.ok (by omega) ro m
  have h2 := fun ro m hro => rclaim_ev (namesC c) (by omega) c hc [] (by simp only [List.length_nil]; omega) (fun s hs => by cases hs) 1 (by omega) true ro m hro
  simp only [List.map_nil] at h2
  have hro1 : ro ≤ m.length + 1 := by omega
  refine evL_by (n := 7) (by kernel_rfl) rfl fn17 rfl rfl rfl rfl ?_
  unfold textC
  simp only [go_sem, ↓reduceIte, h1, h2, hro, hro1]
set_option maxHeartbeats 4000000 in
theorem showClaims_ev (c : Cl) (hc : okC c) :
    evL Tryd.prog An 0 4 [.c (encC c)] [] = some (.c (.v (.bool true)), []) := by
  refine evL_by (n := 15) (by kernel_rfl) rfl fn4 rfl rfl rfl rfl ?_
  have ha := fun fr => alive_ev fr 0 (.inl rfl)
  have ha1 := fun fr => alive_ev fr 1 (.inr rfl)
  have hp := fun ro m hro => plain_ev c hc 300 (by omega) ro m hro
  have e3 : ((300 : Nat) : Int) = 300 := rfl
  simp only [e3] at hp
  cases h1 : plainB c 300 with
  | false =>
    rw [h1] at hp
    simp only [go_sem, ↓reduceIte, hp, ha]
  | true =>
    rw [h1] at hp
    unfold plainB at h1
    simp only [Bool.and_eq_true, Bool.not_eq_true', decide_eq_false_iff_not, beq_iff_eq] at h1
    obtain ⟨k1, k2, k3⟩ := h1
    have hok : ClaimOK c := ⟨hc, firstC_right k2, k3, by omega⟩
    have q1 := fun ro m hro => sClaim_ev c hok ro m hro
    have q2 := fun ro m hro => rClaim_ev c hok ro m hro
    have d3 : beqS (textC c) (textC c) = true := beqS_self _
    simp only [go_sem, ↓reduceIte, hp, q1, q2, d3, ha1]
end Go.Eng
