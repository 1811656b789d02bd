-- own work: an evaluator of the program's code, and what it answers
import Derived.Test.YtdmoipccmbimhaaGreatDoorA3
/- The law of claims that are alike: its answer. -/
set_option maxRecDepth 100000
set_option linter.unusedVariables false
set_option linter.unusedSimpArgs false
namespace Go.Eng
open Go Go.Proofs
set_option maxHeartbeats 8000000 in
theorem alike_ev (s : Sg) (w : Wd) (vs : List Va) (env : List Bd) (c : Cl) (ns : List ByteArray) (hs : bigS s) (hw : bigW w) (hv : vs.length ≤ 8796093022208) (he : env.length ≤ 8796093022208) (hb : ∀ b ∈ env, b.nm.size ≤ maxLen ∧ wfI b.val) (hc : okC c) (hn : ns.length ≤ 8796093022208) (hn2 : ∀ x ∈ ns, x.size ≤ maxLen) (ro : Nat) (m : Mem) (hro : ro ≤ m.length) :
    evL Tryz.prog AnZ ro 5 [.c (encS s), .c (encW w), .c (.sl (vs.map encV)), .c (.sl (env.map encB)), .c (encC c), .c (.sl (ns.map cS))] m = some (.c (.v (.bool true)), m) := by
  have hro1 : ro ≤ m.length + 1 := by omega
  have hN := numOK_of hw hv he hb
  refine evL_by (n := 77) (by kernel_rfl) rfl fn5 rfl rfl rfl rfl ?_
  have h1 := fun ro m hro => few16_ev s w hs.ok hw.ok ro m hro
  have hclaim : ∀ c, okC c → ∀ ro m, ro ≤ m.length → evL Tryz.prog AnZ ro 16 [.c (encS s), .c (encW w), .c (.sl (vs.map encV)), .c (.sl (env.map encB)), .c (encC c)] m = some (.tup (encBP (claimZ s w vs env c)), m) := fun c hc ro m hro =>
    wclaim_ev s w vs env c hs.ok hw.ok hN.hvs hc okT (fun hroom bs bnd x a hin hl hty hx => term_ev s w vs env hroom hN (depT x) x bs bnd a (Nat.le_refl _) hx hty hin hl) (fun hroom h1 => by
      obtain ⟨_, k2, k3⟩ := wellC_first h1
      exact tyC_ok (ty_ofC s vs c [] [] k2 k3) hc) ro m hro
  have h5 := fun ro m hro => goes16_ev ro m hro
  have h6 := fun ro m hro => fair_ev c hc 4 ro m hro
  cases hfew : few16 s w with
  | false => rw [hfew] at h1; simp only [go_sem, ↓reduceIte, h1, h5, hro, hro1]
  | true =>
    rw [hfew] at h1
    have cw : IntKind.i64.wrap ((vs.length : Int) + env.length) = (vs.length : Int) + env.length := wrap64 (by omega) (by omega)
    by_cases hlen : (vs.length : Int) + env.length > 100
    · have c1 : decide ((vs.length : Int) + env.length > 100) = true := dec_t hlen
      simp only [go_sem, ↓reduceIte, h1, h5, cw, c1, hro, hro1]
    · have c1 : decide ((vs.length : Int) + env.length > 100) = false := dec_f hlen
      by_cases hf : sizeC c ≤ 40
      · have hd := (named_ok c ns hc hn2).1
        have hz := claimZ_alike s w vs env (named_alike c ns)
        have hnm := fun ro m hro => named_ev c hc ns (by rw [maxLen_eq]; omega) (by omega) ro m hro
        have hr := fun ro m hro => upZ (rRightC_ev (namedC c ns).1 hd ro m hro)
        have h2 := hclaim c hc
        have h3 := hclaim (namedC c ns).1 hd
        rw [hz] at h3
        generalize namedC c ns = q at hnm hr h3
        obtain ⟨d, rest⟩ := q
        dsimp only at hnm hr h3
        generalize claimZ s w vs env c = r at h2 h3
        obtain ⟨rv, re⟩ := r
        generalize (decide (sizeC c ≤ 40) && decide ((nestC c : Int) ≤ 4)) = fb at h6
        cases fb with
        | false => simp only [go_sem, ↓reduceIte, h1, h5, h6, cw, c1, hro, hro1]
        | true =>
          have c3 : (rv == rv) = true := by cases rv <;> rfl
          have c4 : (re == re) = true := beq_t rfl
          cases c5 : (rightC d != 0) <;> simp only [go_sem, ↓reduceIte, h1, h2, h3, h5, h6, hnm, hr, cw, c1, c3, c4, c5, encBP, hro, hro1]
      · have hfb : (decide (sizeC c ≤ 40) && decide ((nestC c : Int) ≤ 4)) = false := by rw [dec_f hf, Bool.false_and]
        rw [hfb] at h6
        simp only [go_sem, ↓reduceIte, h1, h5, h6, cw, c1, hro, hro1]
end Go.Eng
