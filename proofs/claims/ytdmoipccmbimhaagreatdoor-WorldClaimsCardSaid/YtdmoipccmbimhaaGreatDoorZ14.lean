-- own work: an evaluator of the program's code, and what it answers
import Derived.Test.YtdmoipccmbimhaaGreatDoorZ13
import Derived.Test.YtdmoipccmbimhaaGreatDoorR7
/- Whether a claim holds in a world: the reference. -/
set_option maxRecDepth 100000
set_option linter.unusedVariables false
set_option linter.unusedSimpArgs false
namespace Go.Eng
open Go Go.Proofs
def encTr (x : Bool × Int) : C := .agg [.v (.bool x.1), .v (.int .i64 x.2)]
def boxTr0 : Box := [.c (.v (.bool false)), .c (.v (.int .i64 0))]
attribute [go_sem] boxTr0
theorem bindGo_err {g : Int → Bool × Int} {all : Bool} : ∀ (k : Nat) (v : Int) (acc : Bool), (bindGo g all k v acc).2 ≠ 0 → (bindGo g all k v acc).1 = false
  | 0, v, acc, h => absurd rfl h
  | k + 1, v, acc, h => by
    rw [bindGo] at h ⊢
    split
    · rfl
    · rename_i hc
      rw [if_neg hc] at h
      exact bindGo_err k _ _ h
theorem appV_err {s : Sg} {w : Wd} {nm : ByteArray} {l : List Int} (h : (appV s w nm l).2 ≠ 0) : (appV s w nm l).1 = 0 := by
  unfold appV at h ⊢
  split at h
  · rename_i hw; rw [if_pos hw]
  · exact absurd rfl h
theorem holdsV_err {s : Sg} {w : Wd} {vs : List Va} {env : List Bd} {bnd : List Int} (c : Cl) (h : (holdsV s w vs env bnd c).2 ≠ 0) : (holdsV s w vs env bnd c).1 = false := by
  rw [holdsV_eq] at h ⊢
  by_cases h1 : (valsV s w vs env bnd c.ts).2 ≠ 0
  · rw [if_pos h1]
  rw [if_neg h1] at h ⊢
  by_cases h2 : bindB c.op = true
  · rw [if_pos h2] at h ⊢
    by_cases h3 : beqS c.so sInt = true
    · rw [if_pos h3]
    rw [if_neg h3] at h ⊢
    exact bindGo_err _ _ _ h
  rw [if_neg h2] at h ⊢
  by_cases h3 : (holdsS s w vs env bnd c.ss).2 ≠ 0
  · rw [if_pos h3]
  rw [if_neg h3] at h ⊢
  unfold lastV at h ⊢
  by_cases o3 : c.op = 3
  · rw [if_pos o3] at h ⊢
    rw [appV_err h]
    rfl
  rw [if_neg o3] at h
  split at h
  · exact absurd rfl h
  · split at h
    · exact absurd rfl h
    · exact absurd rfl h
/-- the reference tells whether a claim holds -/
def RClaimOK (s : Sg) (w : Wd) (vs : List Va) (env : List Bd) (bnd : List Int) (c : Cl) : Prop :=
  ∀ ro m, ro ≤ m.length → evL Tryz.prog AnZ ro 53 [.c (encS s), .c (encW w), .c (.sl (vs.map encV)), .c (.sl (env.map encB)), .c (.sl (bnd.map cI)), .c (encC c)] m = some (.c (encTr (holdsV s w vs env bnd c)), m)
set_option maxHeartbeats 8000000 in
theorem rbinder_ev (s : Sg) (w : Wd) (vs : List Va) (env : List Bd) (bnd : List Int) (h : RoomOK s w) (c x : Cl) (hss : c.ss = [x]) (hop : c.op = 11 ∨ c.op = 12) (hb : bnd.length ≤ 100000)
    (hsub : ∀ v : Int, 0 ≤ v → v < sizeI s.sorts w.sizes c.so → RClaimOK s w vs env (bnd ++ [v]) x) (ro : Nat) (m : Mem) (hro : ro ≤ m.length) :
    evL Tryz.prog AnZ ro 82 [.c (encS s), .c (encW w), .c (.sl (vs.map encV)), .c (.sl (env.map encB)), .c (.sl (bnd.map cI)), .c (encC c)] m = some (.c (encTr (if beqS c.so sInt = true then (false, 1) else bindGo (fun v => holdsV s w vs env (bnd ++ [v]) x) (c.op == 11) (sizeI s.sorts w.sizes c.so).toNat 0 (c.op == 11))), m) := by
  have hro1 : ro ≤ m.length + 1 := by omega
  have hp := (sizedE_ok h.hs h.sized.1).1
  have hsz := fun ro m => rsize_ev s w c.so h.hs.sorts hp.len ro m
  have hbd := h.bd c.so
  refine evL_by (n := 74) (by kernel_rfl) rfl fn82 rfl rfl rfl rfl ?_
  cases hi : beqS c.so sInt with
  | true =>
    rw [if_pos rfl]
    simp only [go_sem, ↓reduceIte, hi, encTr, hro, hro1]
  | false =>
    rw [if_neg (show ¬ (false = true) by simp)]
    generalize sizeI s.sorts w.sizes c.so = z at hbd hsub hsz ⊢
    obtain ⟨N, rfl⟩ : ∃ N : Nat, z = N := ⟨z.toNat, by omega⟩
    rw [Int.toNat_natCast]
    have hsub' := fun (v : Nat) (hv : v < N) => hsub v (by omega) (by omega)
    unfold RClaimOK at hsub'
    have d1 : (bnd.length + 1) * 8 ≤ 140737488355328 := by omega
    have d2 : bnd.length + 1 ≤ 9223372036854775807 := by omega
    have d3 : bnd.length * 8 ≤ 140737488355328 := by omega
    have d4 : bnd.length ≤ 9223372036854775807 := by omega
    generalize hal : (c.op == 11) = al
    simp only [go_sem, ↓reduceIte, hi, hro, hro1]
    generalize hL : loopW _ _ = L
    obtain ⟨⟨i, a, so⟩, ⟨k1, k2⟩, hE, rfl⟩ := loopW_at hL (fun (q : Nat × Bool × Bool) => [(13, .c (.v (.bool q.2.1))), (14, .c (.v (.bool q.2.2))), (15, .c (.v (.int .i64 q.1)))]) (fun _ => [(12, boxTr0)] :: m)
      (fun q => q.1 ≤ N ∧ bindGo (fun v => holdsV s w vs env (bnd ++ [v]) x) al N 0 al = bindGo (fun v => holdsV s w vs env (bnd ++ [v]) x) al (N - q.1) q.1 (if al = true then q.2.1 else q.2.2))
      (fun q => q.1 = N ∨ (holdsV s w vs env (bnd ++ [(q.1 : Int)]) x).2 ≠ 0) (fun q => N - q.1) (0, true, false) rfl rfl ⟨by simp, by cases al <;> simp⟩ (by
      rintro ⟨i, a, so⟩ ⟨k1, k2⟩ hE
      simp only [not_or] at hE k1 k2
      obtain ⟨k4, k5⟩ := hE
      have c1 : decide ((i : Int) < (N : Int)) = true := dec_t (by omega)
      have c3 : IntKind.i64.wrap ((i : Int) + 1) = ((i + 1 : Nat) : Int) := wrap64 (by omega) (by omega)
      have hc := hsub' i (by omega)
      have hgood := bindGo_good (g := fun v => holdsV s w vs env (bnd ++ [v]) x) (all := al) (acc := if al = true then a else so) (k := N - (i + 1)) (v := (i : Int)) (by simpa using k5)
      have hN : N - i = N - (i + 1) + 1 := by omega
      generalize holdsV s w vs env (bnd ++ [(i : Int)]) x = q at hc k5 hgood
      obtain ⟨ok, e⟩ := q
      simp only at k5 hgood
      have c2 : (e != 0) = false := by simpa using k5
      refine ⟨(i + 1, a && ok, so || ok), ⟨by simp only; omega, ?_⟩, by simp only; omega, ?_⟩
      · rw [k2, hN, hgood]
        dsimp only
        have : (if ok = al then (if al = true then a else so) else !al) = (if al = true then (a && ok) else (so || ok)) := by cases al <;> cases ok <;> cases a <;> cases so <;> rfl
        rw [this]; simp
      · rw [round_go]
        cases a <;> cases so <;>
          simp only [go_sem, ↓reduceIte, c1, c2, c3, d1, d2, d3, d4, hss, hsz, List.map_cons, List.map_nil, List.nil_append, Nat.zero_add, I_snoc, hc, encTr, hro1, hro, Bool.true_and, Bool.false_and, Bool.true_or, Bool.false_or])
    clear hL
    simp only at k1 k2 hE
    rw [loopW_go, k2]
    by_cases hi2 : ¬ i = N
    · have hbad := hE.resolve_left hi2
      have c1 : decide ((i : Int) < (N : Int)) = true := dec_t (by omega)
      have hc := hsub' i (by omega)
      have hN : N - i = N - (i + 1) + 1 := by omega
      have hb2 := bindGo_bad (g := fun v => holdsV s w vs env (bnd ++ [v]) x) (all := al) (acc := if al = true then a else so) (k := N - (i + 1)) (v := (i : Int)) hbad
      have hf := holdsV_err x hbad
      rw [hN, hb2]
      try simp only
      generalize holdsV s w vs env (bnd ++ [(i : Int)]) x = q at hc hbad hf ⊢
      obtain ⟨ok, e⟩ := q
      simp only at hbad hf
      subst hf
      have c2 : (e != 0) = true := by simpa using hbad
      simp only [go_sem, ↓reduceIte, c1, c2, d1, d2, d3, d4, hss, hsz, List.map_cons, List.map_nil, List.nil_append, Nat.zero_add, I_snoc, hc, encTr, hro1, hro]
    · have hi2 := Decidable.not_not.1 hi2
      have c1 : decide ((i : Int) < (N : Int)) = false := dec_f (by omega)
      rw [hi2, Nat.sub_self, bindGo_zero]
      rw [hi2] at c1
      rcases hop with h11 | h12
      · have e1 : (c.op == 11) = true := beq_t h11
        have e2 : (c.op == 12) = false := beq_f (by omega)
        rw [← hal, e1]
        cases a <;> simp only [go_sem, ↓reduceIte, c1, hsz, e1, e2, encTr, hro1, hro]
      · have e1 : (c.op == 11) = false := beq_f (by omega)
        have e2 : (c.op == 12) = true := beq_t h12
        rw [← hal, e1]
        cases so <;> simp only [go_sem, ↓reduceIte, c1, hsz, e1, e2, encTr, hro1, hro, Bool.false_eq_true]
end Go.Eng
