-- own work: an evaluator of the program's code, and what it answers
import Derived.Test.YtjmbdejejlcklaaDoorR10
import Derived.Test.YtjmbdejejlcklaaDoorR8
set_option maxRecDepth 100000
set_option linter.unusedVariables false
set_option linter.unusedSimpArgs false
namespace Go.Eng
open Go Go.Proofs
set_option maxHeartbeats 8000000 in
theorem more_ev (s : Sg) (vs more : List Va) (c : Cl) (hs : bigS s) (hv : vs.length ≤ 8796093022208) (hm : more.length ≤ 8796093022208) (hc : okC c) (ro : Nat) (m : Mem) (hro : ro ≤ m.length) :
    evL Tryd.prog An ro 7 [.c (encS s), .c (.sl (vs.map encV)), .c (.sl (more.map encV)), .c (encC c)] m = some (.c (.v (.bool true)), m) := by
  refine evL_by (n := 68) (by kernel_rfl) rfl fn7 rfl rfl rfl rfl ?_
  have hro1 : ro ≤ m.length + 1 := by omega
  have hf := fun ro m => few_ev s vs hs.ok ro m
  have hg := fun ro m hro => goes_ev ro m hro
  have hfb := few_bound hs hv
  generalize few s vs = b at hf hfb
  cases b with
  | false => simp only [go_sem, ↓reduceIte, hf, hg, hro, hro1]
  | true =>
    obtain ⟨b1, b2, b3⟩ := hfb rfl
    by_cases hm1 : more.length > 100
    · have d1 : decide ((more.length : Int) > 100) = true := dec_t (by omega)
      simp only [go_sem, ↓reduceIte, hf, hg, d1, hro, hro1]
    · have d1 : decide ((more.length : Int) > 100) = false := dec_f (by omega)
      have hb := fun ro m hro => big_ev c hc 100 (by omega) ro m hro
      have e100 : ((100 : Nat) : Int) = 100 := rfl
      simp only [e100] at hb
      by_cases hz : 100 < sizeC c
      · simp only [hz, decide_true] at hb
        simp only [go_sem, ↓reduceIte, hf, hg, hb, d1, hro, hro1]
      · simp only [hz, decide_false] at hb
        have hw := fun ro m hro => f19_ev s vs c (by rw [maxLen_eq]; omega) (by omega) (by rw [maxLen_eq]; omega) hc ro m hro
        have hw2 := fun ro m hro => f19_ev s (vs ++ more) c (by rw [maxLen_eq]; omega) (by omega) (by rw [maxLen_eq]; simp; omega) hc ro m hro
        have hln := wellC_len s vs c
        have hld := fun ro m hro => leads_ev c hc (by omega) (wellC s vs c).1 (by omega) ro m hro
        have hlead := wellC_leads s vs c
        have hz0 := wellC_zero s vs c
        have hmo := wellC_more s vs more c
        have q1 : vs.length * 32 ≤ 140737488355328 := by omega
        have q2 : vs.length ≤ 9223372036854775807 := by omega
        have q3 : (vs.length + more.length) * 32 ≤ 140737488355328 := by omega
        have q4 : vs.length + more.length ≤ 9223372036854775807 := by omega
        rw [hlead] at hld
        generalize wellC s (vs ++ more) c = w2 at hw2 hmo
        generalize wellC s vs c = w at hw hln hld hz0 hmo
        obtain ⟨way, e⟩ := w
        obtain ⟨way2, e2⟩ := w2
        simp only at hz0 hld
        by_cases h0 : e = 0
        · have hwy := hz0 h0
          have h2 := hmo h0
          cases h2
          subst h0
          subst hwy
          simp only [go_sem, ↓reduceIte, hf, hg, hb, hw, hw2, d1, q1, q2, q3, q4, V_append, encA2, Int.cast_ofNat_Int, Int.reduceBEq, hro, hro1]
        · have c1 : (e == 0) = false := by simp [h0]
          simp only [go_sem, ↓reduceIte, hf, hg, hb, hw, hw2, hld, d1, c1, q1, q2, q3, q4, V_append, encA2, Int.cast_ofNat_Int, Int.reduceBEq, hro, hro1]
end Go.Eng
