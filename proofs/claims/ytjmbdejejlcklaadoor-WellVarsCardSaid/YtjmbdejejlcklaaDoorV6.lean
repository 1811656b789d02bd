-- own work: an evaluator of the program's code, and what it answers
import Derived.Test.YtjmbdejejlcklaaDoorV5
import Derived.Test.YtjmbdejejlcklaaDoorW12A
import Derived.Test.YtjmbdejejlcklaaDoorKitA
import Derived.Test.YtjmbdejejlcklaaDoorWellA
/- The law of variables. -/
set_option maxRecDepth 100000
set_option linter.unusedVariables false
set_option linter.unusedSimpArgs false
namespace Go.Eng
open Go Go.Proofs
theorem fewL_ge : ∀ (l : List Nat) (x : Int), 0 ≤ x → (∀ a ∈ l, a ≤ 8796093022208) → x ≤ fewL x l
  | [], x, _, _ => Int.le_refl _
  | a :: r, x, h, hl => by
    simp only [fewL]
    split
    · rename_i h4
      have ha := hl a (by simp)
      have hw : IntKind.i64.wrap (x + (a : Int)) = x + a := wrap64 (by omega) (by omega)
      rw [hw]
      have := fewL_ge r (x + a) (by omega) (fun b hb => hl b (by simp [hb]))
      omega
    · exact Int.le_refl _
theorem few_bound {s : Sg} {vs : List Va} (hs : bigS s) (hv : vs.length ≤ 8796093022208) (h : few s vs = true) : s.sorts.length ≤ 400 ∧ s.funs.length ≤ 400 ∧ vs.length ≤ 400 := by
  unfold few at h
  have h := of_decide_eq_true h
  have h1 := hs.sorts
  have h2 := hs.funs
  have w1 : IntKind.i64.wrap ((s.sorts.length : Int) + s.funs.length) = (s.sorts.length : Int) + s.funs.length := wrap64 (by omega) (by omega)
  have w2 : IntKind.i64.wrap ((s.sorts.length : Int) + s.funs.length + vs.length) = (s.sorts.length : Int) + s.funs.length + vs.length := wrap64 (by omega) (by omega)
  rw [w1, w2] at h
  have := fewL_ge (s.funs.map fun f => f.args.length) ((s.sorts.length : Int) + s.funs.length + vs.length) (by omega) (fun a ha => by
    obtain ⟨f, hf, rfl⟩ := List.mem_map.1 ha
    exact hs.args f hf)
  omega
set_option maxHeartbeats 4000000 in
theorem wellVars_ev (s : Sg) (vs : List Va) (hs : bigS s) (hv : vs.length ≤ 8796093022208) (hok : ∀ v ∈ vs, okV v) (ro : Nat) (m : Mem) (hro : ro ≤ m.length) :
    evL Tryd.prog An ro 8 [.c (encS s), .c (.sl (vs.map encV))] m = some (.c (.v (.bool true)), m) := by
  refine evL_by (n := 21) (by kernel_rfl) rfl fn8 rfl rfl rfl rfl ?_
  have hro1 : ro ≤ m.length + 1 := by omega
  have hf := fun ro m => few_ev s vs hs.ok ro m
  have hg := fun ro m hro => goes_ev ro m hro
  have hfb := few_bound hs hv
  generalize few s vs = b at hf hfb
  cases b with
  | false => simp only [go_sem, ↓reduceIte, hf, hg, hro, hro1]
  | true =>
    obtain ⟨b1, b2, b3⟩ := hfb rfl
    have h1 := fun ro m hro => vars_ev s vs hs.ok (by omega) hok (by rw [maxLen_eq]; omega) ro m hro
    have h2 := fun ro m hro => rvars_ev s vs hs.ok hok (by rw [maxLen_eq]; omega) ro m hro
    simp only [go_sem, ↓reduceIte, hf, hg, h1, h2, hro, hro1]
end Go.Eng
