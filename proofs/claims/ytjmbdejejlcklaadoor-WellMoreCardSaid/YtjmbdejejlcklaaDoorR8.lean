-- own work: an evaluator of the program's code, and what it answers
import Derived.Test.YtjmbdejejlcklaaDoorR7
import Derived.Test.YtjmbdejejlcklaaDoorKitA
set_option maxRecDepth 100000
set_option linter.unusedVariables false
set_option linter.unusedSimpArgs false
namespace Go.Eng
open Go Go.Proofs
theorem fewL_ge : ∀ (l : List Nat) (x : Int), 0 ≤ x → (∀ a ∈ l, a ≤ 8796093022208) → x ≤ fewL x l
  | [], x, _, _ => Int.le_refl _
  | a :: r, x, h, hl => by
    simp only [fewL]
    split
    · rename_i h4
      have ha := hl a (by simp)
      have hw : IntKind.i64.wrap (x + (a : Int)) = x + a := wrap64 (by omega) (by omega)
      rw [hw]
      have := fewL_ge r (x + a) (by omega) (fun b hb => hl b (by simp [hb]))
      omega
    · exact Int.le_refl _
theorem few_bound {s : Sg} {vs : List Va} (hs : bigS s) (hv : vs.length ≤ 8796093022208) (h : few s vs = true) : s.sorts.length ≤ 400 ∧ s.funs.length ≤ 400 ∧ vs.length ≤ 400 := by
  unfold few at h
  have h := of_decide_eq_true h
  have h1 := hs.sorts
  have h2 := hs.funs
  have w1 : IntKind.i64.wrap ((s.sorts.length : Int) + s.funs.length) = (s.sorts.length : Int) + s.funs.length := wrap64 (by omega) (by omega)
  have w2 : IntKind.i64.wrap ((s.sorts.length : Int) + s.funs.length + vs.length) = (s.sorts.length : Int) + s.funs.length + vs.length := wrap64 (by omega) (by omega)
  rw [w1, w2] at h
  have := fewL_ge (s.funs.map fun f => f.args.length) ((s.sorts.length : Int) + s.funs.length + vs.length) (by omega) (fun a ha => by
    obtain ⟨f, hf, rfl⟩ := List.mem_map.1 ha
    exact hs.args f hf)
  omega
theorem wellC_len (s : Sg) (vs : List Va) (c : Cl) : (wellC s vs c).1.length ≤ 200 := by
  unfold wellC
  split
  · simp
  · rename_i h
    have := claimW_len s vs 64 c [] (fitC_right (by simpa using h))
    omega
set_option maxHeartbeats 4000000 in
theorem claims_ev (s : Sg) (vs : List Va) (c : Cl) (hs : bigS s) (hv : vs.length ≤ 8796093022208) (hc : okC c) (ro : Nat) (m : Mem) (hro : ro ≤ m.length) :
    evL Tryd.prog An ro 5 [.c (encS s), .c (.sl (vs.map encV)), .c (encC c)] m = some (.c (.v (.bool true)), m) := by
  refine evL_by (n := 43) (by kernel_rfl) rfl fn5 rfl rfl rfl rfl ?_
  have hro1 : ro ≤ m.length + 1 := by omega
  have hf := fun ro m => few_ev s vs hs.ok ro m
  have hg := fun ro m hro => goes_ev ro m hro
  have hfb := few_bound hs hv
  generalize few s vs = b at hf hfb
  cases b with
  | false => simp only [go_sem, ↓reduceIte, hf, hg, hro, hro1]
  | true =>
    obtain ⟨b1, b2, b3⟩ := hfb rfl
    have hb := fun ro m hro => big_ev c hc 300 (by omega) ro m hro
    have e300 : ((300 : Nat) : Int) = 300 := rfl
    simp only [e300] at hb
    generalize decide (300 < sizeC c) = q at hb
    cases q with
    | true => simp only [go_sem, ↓reduceIte, hf, hb, hg, hro, hro1]
    | false =>
      have hw := fun ro m hro => f19_ev s vs c (by rw [maxLen_eq]; omega) (by omega) (by rw [maxLen_eq]; omega) hc ro m hro
      have hr := fun ro m hro => claimIn_ev s vs c (by rw [maxLen_eq]; omega) (by omega) (by rw [maxLen_eq]; omega) hc ro m hro
      have hl := wellC_len s vs c
      generalize wellC s vs c = w at hw hr hl
      obtain ⟨way, e⟩ := w
      simp only at hl hr
      have hi := fun ro m => f15_ev way way (by rw [maxLen_eq]; omega) (by rw [maxLen_eq]; omega) ro m
      have e1 : intsB way way = true := by simp [intsB]
      have e2 : (e == e) = true := by simp
      rw [e1] at hi
      simp only [go_sem, ↓reduceIte, hf, hb, hg, hw, hr, hi, e2, encA2, encG, noS, hro, hro1]
end Go.Eng
