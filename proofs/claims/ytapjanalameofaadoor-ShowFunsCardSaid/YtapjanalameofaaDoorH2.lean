-- own work: an evaluator of the program's code, and what it answers
import Derived.Test.YtapjanalameofaaDoorH1
/- The law of fresh names. -/
set_option maxRecDepth 100000
set_option linter.unusedVariables false
set_option linter.unusedSimpArgs false
namespace Go.Eng
open Go Go.Proofs
set_option maxHeartbeats 4000000 in
theorem showFresh_ev (base : ByteArray) (l : List ByteArray) (hb : base.size ≤ maxLen) (hl : l.length ≤ 8796093022208) (hs : ∀ x ∈ l, x.size ≤ maxLen) :
    evL Tryd.prog An 0 5 [.c (.v (.string base)), .c (.sl (l.map cS))] [] = some (.c (.v (.bool true)), []) := by
  refine evL_by (n := 55) (by kernel_rfl) rfl fn5 rfl rfl rfl rfl ?_
  have ha := fun fr => alive_ev fr 0 (.inl rfl)
  by_cases h1 : 100 < base.size
  · have c1 : decide ((base.size : Int) > 100) = true := dec_t (by omega)
    simp only [go_sem, ↓reduceIte, c1, ha]
  have c1 : decide ((base.size : Int) > 100) = false := dec_f (by omega)
  by_cases h2 : 60 < l.length
  · have c2 : decide ((l.length : Int) > 60) = true := dec_t (by omega)
    simp only [go_sem, ↓reduceIte, c1, c2, ha]
  have c2 : decide ((l.length : Int) > 60) = false := dec_f (by omega)
  simp only [go_sem, ↓reduceIte, c1, c2]
  generalize hL : loopW _ _ = L
  obtain ⟨i, k1, hE, rfl⟩ := loopW_at hL (fun i : Nat => [(19, .c (.v (.int .i64 i)))]) (fun _ => [[]]) (fun i => i ≤ l.length) (fun i => i = l.length ∨ ∃ x, l[i]? = some x ∧ 100 < x.size) (fun i => l.length - i) 0 rfl rfl (by omega) (by
    rintro i k1 hE
    simp only [not_or, not_exists, not_and, Nat.not_lt] at hE
    obtain ⟨e1, e2⟩ := hE
    obtain ⟨x, hx⟩ : ∃ x, l[i]? = some x := ⟨_, List.getElem?_eq_getElem (by omega)⟩
    have d1 : decide ((i : Int) < (l.length : Int)) = true := dec_t (by omega)
    have d2 : decide ((x.size : Int) > 100) = false := dec_f (by have := e2 x hx; omega)
    have d3 : IntKind.i64.wrap ((i : Int) + 1) = ((i + 1 : Nat) : Int) := wrap64 (by omega) (by omega)
    refine ⟨i + 1, by omega, by omega, ?_⟩
    rw [round_go]
    simp only [go_sem, ↓reduceIte, d1, d2, d3, hx])
  clear hL
  rw [loopW_go]
  rcases hE with rfl | ⟨x, hx, h3⟩
  · have d1 : decide ((l.length : Int) < (l.length : Int)) = false := dec_f (by omega)
    have hf := fun ro m => fresh_ev base l (by omega) (by omega) ro m
    have hr := fun ro m => rfresh_ev base l (by omega) (by omega) ro m
    have hh := fun s ro m => has_ev l s (by rw [maxLen_eq]; omega) ro m
    have d2 := freshN_not (base := base) (taken := l) (by omega)
    unfold takenB at d2
    have d3 : ((freshB base l).toList == (freshB base l).toList) = true := beqS_self _
    rw [beqS_def] at d3
    cases d4 : l.any (isS base) with
    | true => simp only [go_sem, ↓reduceIte, d1, d3, d4, hf, hr, hh, ha, freshB, d2]
    | false =>
      have d5 : freshB base l = base := by
        have : freshN base l = 0 := by
          rcases Nat.eq_zero_or_pos (freshN base l) with h | h
          · exact h
          · have := freshN_before (base := base) (taken := l) (i := 0) h
            unfold takenB ixB at this
            rw [if_pos rfl, d4] at this
            cases this
        unfold freshB; rw [this]; rfl
      have d6 : beqS base base = true := beqS_self _
      unfold freshB at d5
      rw [d5] at d2
      simp only [go_sem, ↓reduceIte, d1, d3, d4, d6, hf, hr, hh, ha, freshB, d5]
  · have d1 : decide ((i : Int) < (l.length : Int)) = true := dec_t (by have := (List.getElem?_eq_some_iff.1 hx).1; omega)
    have d2 : decide ((x.size : Int) > 100) = true := dec_t (by omega)
    simp only [go_sem, ↓reduceIte, d1, d2, hx, ha]
end Go.Eng
