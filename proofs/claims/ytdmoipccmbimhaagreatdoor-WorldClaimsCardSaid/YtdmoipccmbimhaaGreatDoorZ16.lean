-- own work: an evaluator of the program's code, and what it answers
import Derived.Test.YtdmoipccmbimhaaGreatDoorZ15
import Derived.Test.YtdmoipccmbimhaaGreatDoorZ16N
/- The law of claims in worlds. -/
set_option maxRecDepth 100000
set_option linter.unusedVariables false
set_option linter.unusedSimpArgs false
namespace Go.Eng
open Go Go.Proofs
set_option maxHeartbeats 4000000 in
theorem rclaim16_ev (s : Sg) (w : Wd) (vs : List Va) (env : List Bd) (c : Cl) (hs : okS s) (hw : okW w) (hN : NumOK w vs env) (hc : okC c) (ro : Nat) (m : Mem) (hro : ro ≤ m.length) :
    evL Tryz.prog AnZ ro 17 [.c (encS s), .c (encW w), .c (.sl (vs.map encV)), .c (.sl (env.map encB)), .c (encC c)] m = some (.c (encTr (claimZ s w vs env c)), m) := by
  have hro1 : ro ≤ m.length + 1 := by omega
  have hr := fun ro m hro => rwright_ev s w hs hw ro m hro
  refine evL_by (n := 36) (by kernel_rfl) rfl fn17 rfl rfl rfl rfl ?_
  unfold claimZ
  by_cases h0 : wrightE s w = 0
  · have hroom : RoomOK s w := ⟨hs, hw, h0⟩
    obtain ⟨hp, hsg, _⟩ := sizedE_ok hs hroom.sized.1
    have hso : s.sorts.length ≤ 2000000 := by have := sortsE_len (signE_ok hsg).1; omega
    have hwl := fun ro m hro => upZ (claimIn_ev s vs c hs.funs hso hN.hvs hc ro m hro)
    rw [h0] at hr
    rw [h0, if_neg (by simp)]
    have cz : ((0 : Int) != 0) = false := rfl
    by_cases h1 : (wellC s vs c).2 = 0
    · obtain ⟨k1, k2, k3⟩ := wellC_first h1
      have hcl := rholds_ev s w vs env hroom hN 64 c [] [] k1 hc (ty_ofC s vs c [] [] k2 k3) trivial (by simp)
      unfold RClaimOK at hcl
      simp only [List.map_nil] at hcl
      rw [if_neg (by simpa using h1)]
      generalize wellC s vs c = q at hwl h1
      obtain ⟨a, b⟩ := q
      simp only at h1
      subst h1
      simp only [go_sem, ↓reduceIte, hr, hwl, hcl, cz, encG, noS, encTr, hro, hro1]
    · rw [if_pos h1]
      generalize wellC s vs c = q at hwl h1 ⊢
      obtain ⟨a, b⟩ := q
      simp only at h1
      have c1 : (b != 0) = true := bneI_t h1
      simp only [go_sem, ↓reduceIte, hr, hwl, cz, c1, encG, noS, encTr, hro, hro1]
  · have c1 : (wrightE s w != 0) = true := bneI_t h0
    rw [if_pos h0]
    simp only [go_sem, ↓reduceIte, hr, c1, encTr, hro, hro1]
set_option maxHeartbeats 8000000 in
theorem claims16_ev (s : Sg) (w : Wd) (vs : List Va) (env : List Bd) (c : Cl) (hs : bigS s) (hw : bigW w) (hv : vs.length ≤ 8796093022208) (he : env.length ≤ 8796093022208) (hb : ∀ b ∈ env, b.nm.size ≤ maxLen ∧ wfI b.val) (hc : okC c) (ro : Nat) (m : Mem) (hro : ro ≤ m.length) :
    evL Tryz.prog AnZ ro 4 [.c (encS s), .c (encW w), .c (.sl (vs.map encV)), .c (.sl (env.map encB)), .c (encC c)] m = some (.c (.v (.bool true)), m) := by
  have hro1 : ro ≤ m.length + 1 := by omega
  have hN := numOK_of hw hv he hb
  refine evL_by (n := 62) (by kernel_rfl) rfl fn4 rfl rfl rfl rfl ?_
  have h1 := fun ro m hro => few16_ev s w hs.ok hw.ok ro m hro
  have h2 := fun ro m hro => wclaim_ev s w vs env c hs.ok hw.ok hN.hvs hc okT (fun hroom bs bnd x a hin hl hty hx => term_ev s w vs env hroom hN (depT x) x bs bnd a (Nat.le_refl _) hx hty hin hl) (fun hroom h1 => by
    obtain ⟨_, k2, k3⟩ := wellC_first h1
    exact tyC_ok (ty_ofC s vs c [] [] k2 k3) hc) ro m hro
  have h3 := fun ro m hro => told_ev w ro m hro
  have h4 := fun ro m hro => rclaim16_ev s w vs env c hs.ok hw.ok hN hc ro m hro
  have h5 := fun ro m hro => goes16_ev ro m hro
  have h6 := fun ro m hro => fair_ev c hc 4 ro m hro
  cases hfew : few16 s w with
  | false => rw [hfew] at h1; simp only [go_sem, ↓reduceIte, h1, h5, hro, hro1]
  | true =>
    rw [hfew] at h1
    have cw : IntKind.i64.wrap ((vs.length : Int) + env.length) = (vs.length : Int) + env.length := wrap64 (by omega) (by omega)
    by_cases hlen : (vs.length : Int) + env.length > 100
    · have c1 : decide ((vs.length : Int) + env.length > 100) = true := dec_t hlen
      simp only [go_sem, ↓reduceIte, h1, h5, cw, c1, hro, hro1]
    · have c1 : decide ((vs.length : Int) + env.length > 100) = false := dec_f hlen
      generalize (decide (sizeC c ≤ 40) && decide ((nestC c : Int) ≤ 4)) = fb at h6
      cases fb with
      | false => simp only [go_sem, ↓reduceIte, h1, h5, h6, cw, c1, hro, hro1]
      | true =>
        have h7 := fun ro m => binds_ev env (by omega) ro m
        generalize claimZ s w vs env c = r at h2 h4
        obtain ⟨rv, re⟩ := r
        have c3 : (rv == rv) = true := by cases rv <;> rfl
        have c4 : (re == re) = true := beq_t rfl
        simp only [go_sem, ↓reduceIte, h1, h2, h3, h4, h5, h6, h7, cw, c1, c3, c4, encBP, encTr, hro, hro1]
end Go.Eng
