-- own work: an evaluator of the program's code, and what it answers
import Derived.Test.YtdmoipccmbimhaaGreatDoorZ12
import Derived.Test.YtdmoipccmbimhaaGreatDoorZ10
import Derived.Test.YtdmoipccmbimhaaGreatDoorR4
import Derived.Test.YtdmoipccmbimhaaGreatDoorDecZ
/- The law of terms' values. -/
set_option maxRecDepth 100000
set_option linter.unusedVariables false
set_option linter.unusedSimpArgs false
namespace Go.Eng
open Go Go.Proofs
def termZ (s : Sg) (w : Wd) (vs : List Va) (env : List Bd) (t : Tm) : Int × Int :=
  if wrightE s w ≠ 0 then (0, wrightE s w) else if (withinW s vs [] t).2.2 ≠ 0 then (0, (withinW s vs [] t).2.2) else valV s w vs env [] t
theorem withinW_ty {s : Sg} {vs : List Va} {t : Tm} (h : (withinW s vs [] t).2.2 = 0) : depT t ≤ 64 ∧ tyT s vs [] t (termW s vs [] [] t).1 := by
  unfold withinW at h
  by_cases hr : rightT t ≠ 0
  · rw [if_pos hr] at h; exact absurd h hr
  rw [if_neg hr] at h
  have hr' : rightT t = 0 := by simpa using hr
  refine ⟨?_, ty_of s vs [] t [] (rightT_first hr') h⟩
  unfold rightT at hr'
  by_cases h1 : 64 < depT t
  · rw [if_pos h1] at hr'; cases hr'
  · omega
set_option maxHeartbeats 4000000 in
theorem wterm_ev (s : Sg) (w : Wd) (vs : List Va) (env : List Bd) (t : Tm) (hs : okS s) (hw : okW w) (hN : NumOK w vs env) (ht : okT t) (ro : Nat) (m : Mem) (hro : ro ≤ m.length) :
    evL Tryz.prog AnZ ro 22 [.c (encS s), .c (encW w), .c (.sl (vs.map encV)), .c (.sl (env.map encB)), .c (encT t)] m = some (.tup (encP (termZ s w vs env t)), m) := by
  have hro1 : ro ≤ m.length + 1 := by omega
  have hr := fun ro m hro => wright_ev s w hs hw ro m hro
  have hwl := fun ro m hro => upZ (f13_ev s vs t hs.funs hN.hvs ht ro m hro)
  refine evL_by (n := 42) (by kernel_rfl) rfl fn22 rfl rfl rfl rfl ?_
  unfold termZ
  by_cases h0 : wrightE s w = 0
  · have hroom : RoomOK s w := ⟨hs, hw, h0⟩
    have hp := (sizedE_ok hs hroom.sized.1).1
    rw [h0] at hr
    rw [h0, if_neg (by simp)]
    have cz : ((0 : Int) != 0) = false := rfl
    by_cases h1 : (withinW s vs [] t).2.2 = 0
    · obtain ⟨k1, k2⟩ := withinW_ty h1
      have hcl := term_ev s w vs env hroom hN 64 t [] [] _ k1 ht k2 trivial (by simp)
      unfold TermOK at hcl
      have hof := fun ro m hro => of_ev s w vs env hp ro m hro
      rw [if_neg (by simpa using h1)]
      generalize withinW s vs [] t = q at hwl h1
      obtain ⟨a, b, e⟩ := q
      simp only at h1
      subst h1
      simp only [go_sem, ↓reduceIte, hr, hwl, hof, hcl, cz, encN, encP, hro, hro1]
    · rw [if_pos h1]
      generalize withinW s vs [] t = q at hwl h1 ⊢
      obtain ⟨a, b, e⟩ := q
      simp only at h1
      have c1 : (e != 0) = true := bneI_t h1
      simp only [go_sem, ↓reduceIte, hr, hwl, cz, c1, encN, encP, hro, hro1]
  · have c1 : (wrightE s w != 0) = true := bneI_t h0
    rw [if_pos h0]
    simp only [go_sem, ↓reduceIte, hr, c1, encP, hro, hro1]
set_option maxHeartbeats 2000000 in
theorem termIn_ev (s : Sg) (vs : List Va) (t : Tm) (hs : s.funs.length ≤ maxLen) (hv : vs.length ≤ maxLen) (ht : okT t) (ro : Nat) (m : Mem) (hro : ro ≤ m.length) :
    evL Tryz.prog AnZ ro 27 [.c (encS s), .c (.sl (vs.map encV)), .c (.sl []), .c (encT t)] m = some (.c (encG (withinW s vs [] t)), m) := by
  have hro1 : ro ≤ m.length + 1 := by omega
  have hr := fun ro m hro => upZ (rRight_ev t ht ro m hro)
  refine evL_by (n := 21) (by kernel_rfl) rfl fn27 rfl rfl rfl rfl ?_
  unfold withinW
  by_cases h : rightT t = 0
  · have d1 : (rightT t != 0) = false := by simp [h]
    rw [if_neg (by simpa using h)]
    have hcl := fun ro m hro => upZ (within_ev s vs [] hs hv (by simp) 64 t (fit_right h) (by omega) ro m hro)
    simp only [List.map_nil] at hcl
    generalize termW s vs [] [] t = q at hcl ⊢
    obtain ⟨a, b, e⟩ := q
    simp only [go_sem, ↓reduceIte, hr, d1, hcl, encG, hro, hro1]
  · have d1 : (rightT t != 0) = true := by simpa using h
    rw [if_pos (by simpa using h)]
    simp only [go_sem, ↓reduceIte, hr, d1, encG, noS, hro, hro1]
set_option maxHeartbeats 4000000 in
theorem rterm16_ev (s : Sg) (w : Wd) (vs : List Va) (env : List Bd) (t : Tm) (hs : okS s) (hw : okW w) (hN : NumOK w vs env) (ht : okT t) (ro : Nat) (m : Mem) (hro : ro ≤ m.length) :
    evL Tryz.prog AnZ ro 23 [.c (encS s), .c (encW w), .c (.sl (vs.map encV)), .c (.sl (env.map encB)), .c (encT t)] m = some (.c (encVal (termZ s w vs env t)), m) := by
  have hro1 : ro ≤ m.length + 1 := by omega
  have hr := fun ro m hro => rwright_ev s w hs hw ro m hro
  have hwl := fun ro m hro => termIn_ev s vs t hs.funs hN.hvs ht ro m hro
  refine evL_by (n := 36) (by kernel_rfl) rfl fn23 rfl rfl rfl rfl ?_
  unfold termZ
  by_cases h0 : wrightE s w = 0
  · have hroom : RoomOK s w := ⟨hs, hw, h0⟩
    rw [h0] at hr
    rw [h0, if_neg (by simp)]
    have cz : ((0 : Int) != 0) = false := rfl
    by_cases h1 : (withinW s vs [] t).2.2 = 0
    · obtain ⟨k1, k2⟩ := withinW_ty h1
      have hcl := rterm_ev s w vs env hroom hN 64 t [] [] _ k1 ht k2 trivial (by simp)
      unfold RTermOK at hcl
      simp only [List.map_nil] at hcl
      rw [if_neg (by simpa using h1)]
      generalize withinW s vs [] t = q at hwl h1
      obtain ⟨a, b, e⟩ := q
      simp only at h1
      subst h1
      simp only [go_sem, ↓reduceIte, hr, hwl, hcl, cz, encVal, hro, hro1]
    · rw [if_pos h1]
      generalize withinW s vs [] t = q at hwl h1 ⊢
      obtain ⟨a, b, e⟩ := q
      simp only at h1
      have c1 : (e != 0) = true := bneI_t h1
      simp only [go_sem, ↓reduceIte, hr, hwl, cz, c1, encVal, hro, hro1]
  · have c1 : (wrightE s w != 0) = true := bneI_t h0
    rw [if_pos h0]
    simp only [go_sem, ↓reduceIte, hr, c1, encVal, hro, hro1]
theorem headOK_B (l : List Bd) : headOK 2 (l.map encB) = true := by cases l <;> rfl
attribute [go_sem] headOK_B
set_option maxHeartbeats 2000000 in
theorem binds_ev (env : List Bd) (hl : env.length ≤ 100000) (ro : Nat) (m : Mem) :
    evL Tryz.prog AnZ ro 18 [.c (.sl (env.map encB))] m = some (.c (.sl (env.map encB)), m) := by
  refine evL_by (n := 26) (by kernel_rfl) rfl fn18 rfl rfl rfl rfl ?_
  simp only [go_sem, ↓reduceIte]
  generalize hL : loopW _ _ = L
  obtain ⟨i, h1, hE, rfl⟩ := loopW_at hL (fun i : Nat => [(3, .tip (if i = 0 then none else some 2) ((env.take i).map encB)), (4, .c (.v (.int .i64 i)))]) (fun _ => [] :: m) (fun i => i ≤ env.length) (fun i => i = env.length) (fun i => env.length - i) 0 rfl rfl (by omega) (by
    rintro i h1 hE
    obtain ⟨b, hb⟩ : ∃ x, env[i]? = some x := ⟨_, List.getElem?_eq_getElem (by omega)⟩
    have c1 : decide ((i : Int) < (env.length : Int)) = true := dec_t (by omega)
    have c3 : IntKind.i64.wrap ((i : Int) + 1) = ((i + 1 : Nat) : Int) := wrap64 (by omega) (by omega)
    have c4 : (i + 1 = 0) = False := by simp
    have hlen : (env.take i).length = i := by rw [List.length_take]; omega
    have c5 : ((env.take i).length + 1) * 24 ≤ 140737488355328 := by omega
    have c6 : (env.take i).length + 1 ≤ 9223372036854775807 := by omega
    have hsn : (env.take (i + 1)).map encB = (env.take i).map encB ++ [encB b] := by
      obtain ⟨hi, rfl⟩ := List.getElem?_eq_some_iff.1 hb
      rw [List.take_succ_eq_append_getElem hi, List.map_append]; rfl
    refine ⟨i + 1, by omega, by omega, ?_⟩
    have hos : (if i = 0 then none else some 2 : Option Nat) = none ∨ (if i = 0 then none else some 2 : Option Nat) = some 2 := by split <;> simp
    rw [round_go, hsn]
    generalize (if i = 0 then none else some 2 : Option Nat) = os at hos ⊢
    generalize env.take i = out at c5 c6
    simp only [go_sem, ↓reduceIte, c1, c3, c4, c5, c6, hos, hb])
  clear hL
  subst hE
  rw [loopW_go]
  have c1 : decide ((env.length : Int) < (env.length : Int)) = false := dec_f (by omega)
  rw [List.take_length]
  generalize (if env.length = 0 then none else some 2 : Option Nat) = os
  simp only [go_sem, ↓reduceIte, c1]
theorem numOK_of {w : Wd} {vs : List Va} {env : List Bd} (hw : bigW w) (hv : vs.length ≤ 8796093022208) (he : env.length ≤ 8796093022208) (hb : ∀ b ∈ env, b.nm.size ≤ maxLen ∧ wfI b.val) : NumOK w vs env :=
  ⟨by rw [maxLen_eq]; omega, by rw [maxLen_eq]; omega, fun b h => okI_wf (hb b h).2, fun t ht x hx => okI_wf ((hw.each t ht).2 x hx)⟩
set_option maxHeartbeats 8000000 in
theorem terms_ev (s : Sg) (w : Wd) (vs : List Va) (env : List Bd) (t : Tm) (hs : bigS s) (hw : bigW w) (hv : vs.length ≤ 8796093022208) (he : env.length ≤ 8796093022208) (hb : ∀ b ∈ env, b.nm.size ≤ maxLen ∧ wfI b.val) (ht : okT t) (ro : Nat) (m : Mem) (hro : ro ≤ m.length) :
    evL Tryz.prog AnZ ro 6 [.c (encS s), .c (encW w), .c (.sl (vs.map encV)), .c (.sl (env.map encB)), .c (encT t)] m = some (.c (.v (.bool true)), m) := by
  have hro1 : ro ≤ m.length + 1 := by omega
  have hN := numOK_of hw hv he hb
  refine evL_by (n := 62) (by kernel_rfl) rfl fn6 rfl rfl rfl rfl ?_
  have h1 := fun ro m hro => few16_ev s w hs.ok hw.ok ro m hro
  have h2 := fun ro m hro => wterm_ev s w vs env t hs.ok hw.ok hN ht ro m hro
  have h3 := fun ro m hro => told_ev w ro m hro
  have h4 := fun ro m hro => rterm16_ev s w vs env t hs.ok hw.ok hN ht ro m hro
  have h5 := fun ro m hro => goes16_ev ro m hro
  have h6 := fun ro m => upZ (size_ev t ht 60 (by omega) ro m)
  have e60 : ((60 : Nat) : Int) = 60 := rfl
  simp only [e60, Nat.reduceAdd] at h6
  cases hfew : few16 s w with
  | false => rw [hfew] at h1; simp only [go_sem, ↓reduceIte, h1, h5, hro, hro1]
  | true =>
    rw [hfew] at h1
    have cw : IntKind.i64.wrap ((vs.length : Int) + env.length) = (vs.length : Int) + env.length := wrap64 (by omega) (by omega)
    by_cases hlen : (vs.length : Int) + env.length > 100
    · have c1 : decide ((vs.length : Int) + env.length > 100) = true := dec_t hlen
      simp only [go_sem, ↓reduceIte, h1, h5, cw, c1, hro, hro1]
    · have c1 : decide ((vs.length : Int) + env.length > 100) = false := dec_f hlen
      generalize hz : (min (sizeT t) 61 : Nat) = z at h6
      by_cases hsz : (z : Int) > 60
      · have c2 : decide ((z : Int) > 60) = true := dec_t hsz
        simp only [go_sem, ↓reduceIte, h1, h5, h6, cw, c1, c2, hro, hro1]
      · have c2 : decide ((z : Int) > 60) = false := dec_f hsz
        have h7 := fun ro m => binds_ev env (by omega) ro m
        generalize termZ s w vs env t = r at h2 h4
        obtain ⟨rv, re⟩ := r
        have c3 : (rv == rv) = true := beq_t rfl
        have c4 : (re == re) = true := beq_t rfl
        simp only [go_sem, ↓reduceIte, h1, h2, h3, h4, h5, h6, h7, cw, c1, c2, c3, c4, encP, encVal, hro, hro1]
end Go.Eng
