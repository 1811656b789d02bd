-- own work: an evaluator of the program's code, and what it answers
import Derived.Test.YtdmoipccmbimhaaGreatDoorZ13
import Derived.Test.YtdmoipccmbimhaaGreatDoorR5
/- How claims nest. -/
set_option maxRecDepth 100000
set_option linter.unusedVariables false
set_option linter.unusedSimpArgs false
namespace Go.Eng
open Go Go.Proofs
mutual
/-- how many binders within one another -/
def nestC : Cl → Nat
  | .mk op _ _ _ ss => if bindB op = true then nestCs ss + 1 else nestCs ss
def nestCs : List Cl → Nat
  | [] => 0
  | x :: r => max (nestC x) (nestCs r)
end
mutual
theorem nestC_le : ∀ c : Cl, nestC c ≤ sizeC c
  | .mk op nm so ts ss => by
    rw [nestC, sizeC]
    have := nestCs_le ss
    split <;> omega
theorem nestCs_le : ∀ l : List Cl, nestCs l ≤ sizeCs l
  | [] => by simp [nestCs]
  | x :: r => by
    rw [nestCs, sizeCs]
    have := nestC_le x
    have := nestCs_le r
    omega
end
theorem sizeC_arg {c x : Cl} (hx : x ∈ c.ss) : sizeC x < sizeC c := by
  obtain ⟨op, nm, so, ts, ss⟩ := c
  have hx' : x ∈ ss := hx
  rw [sizeC]
  have : ∀ l : List Cl, x ∈ l → sizeC x ≤ sizeCs l := by
    intro l
    induction l with
    | nil => intro h; cases h
    | cons y r ih =>
      intro h
      rw [sizeCs]
      rcases List.mem_cons.1 h with rfl | h
      · omega
      · have := ih h; omega
  have := this ss hx'
  omega
theorem nestC_eq (c : Cl) : nestC c = if bindB c.op = true then nestCs c.ss + 1 else nestCs c.ss := by cases c; rw [nestC]; rfl
set_option maxHeartbeats 4000000 in
theorem nest_ev : ∀ (d : Nat) (c : Cl), sizeC c ≤ d → okC c → d ≤ 1000 → ∀ (ro : Nat) (m : Mem), ro ≤ m.length → evL Tryz.prog AnZ ro 25 [.c (encC c)] m = some (.c (.v (.int .i64 (nestC c))), m)
  | 0, c, hd, _, _, _, _, _ => by cases c; simp [sizeC] at hd
  | d + 1, c, hd, hok, hd2, ro, m, hro => by
    have hro1 : ro ≤ m.length + 1 := by omega
    have hl := hok.len.2
    rw [maxLen_eq] at hl
    have hsub : ∀ x ∈ c.ss, ∀ ro m, ro ≤ m.length → evL Tryz.prog AnZ ro 25 [.c (encC x)] m = some (.c (.v (.int .i64 (nestC x))), m) := fun x hx ro m h => nest_ev d x (by have := sizeC_arg hx; omega) (hok.arg.2 x hx) (by omega) ro m h
    have hb1 : nestCs c.ss ≤ 1000 := by
      have h1 := nestC_le c
      rw [nestC_eq] at h1
      split at h1 <;> omega
    refine evL_by (n := 31) (by kernel_rfl) rfl fn25 rfl rfl rfl rfl ?_
    simp only [go_sem, ↓reduceIte]
    generalize hL : loopW _ _ = L
    obtain ⟨⟨i, n⟩, ⟨k1, k2⟩, hE, rfl⟩ := loopW_at hL (fun (q : Nat × Nat) => [(3, .c (.v (.int .i64 q.2))), (4, .c (.v (.int .i64 q.1)))]) (fun _ => [] :: m)
      (fun q => q.1 ≤ c.ss.length ∧ nestCs c.ss = max q.2 (nestCs (c.ss.drop q.1))) (fun q => q.1 = c.ss.length) (fun q => c.ss.length - q.1) (0, 0) rfl rfl ⟨by simp, by simp⟩ (by
      rintro ⟨i, n⟩ ⟨k1, k2⟩ hE
      dsimp only at k1 k2 hE
      obtain ⟨x, hx⟩ : ∃ x, c.ss[i]? = some x := ⟨_, List.getElem?_eq_getElem (by omega)⟩
      have c1 : decide ((i : Int) < (c.ss.length : Int)) = true := dec_t (by omega)
      have c3 : IntKind.i64.wrap ((i : Int) + 1) = ((i + 1 : Nat) : Int) := wrap64 (by omega) (by omega)
      have hc := hsub x (List.mem_of_getElem? hx)
      have hm : (if (nestC x : Int) > (n : Int) then (nestC x : Int) else (n : Int)) = ((max n (nestC x) : Nat) : Int) := by split <;> omega
      refine ⟨(i + 1, max n (nestC x)), ⟨by dsimp only; omega, ?_⟩, by dsimp only; omega, ?_⟩
      · rw [k2, drop_get hx, nestCs]; dsimp only; omega
      · rw [round_go]
        simp only [go_sem, ↓reduceIte, c1, c3, hx, hc, minmax, hm, hro, hro1])
    clear hL
    dsimp only at k1 k2 hE
    subst hE
    rw [List.drop_length, nestCs] at k2
    have hn : n = nestCs c.ss := by omega
    subst hn
    have c1 : decide ((c.ss.length : Int) < (c.ss.length : Int)) = false := dec_f (by omega)
    rw [loopW_go, nestC_eq]
    have c3 : IntKind.i64.wrap ((nestCs c.ss : Int) + 1) = ((nestCs c.ss + 1 : Nat) : Int) := wrap64 (by omega) (by omega)
    by_cases h11 : c.op = 11
    · have e1 : (c.op == 11) = true := beq_t h11
      rw [if_pos (show bindB c.op = true by rw [h11]; rfl)]
      simp only [go_sem, ↓reduceIte, c1, c3, e1]
    · have e1 : (c.op == 11) = false := beq_f h11
      by_cases h12 : c.op = 12
      · have e2 : (c.op == 12) = true := beq_t h12
        rw [if_pos (show bindB c.op = true by rw [h12]; rfl)]
        simp only [go_sem, ↓reduceIte, c1, c3, e1, e2]
      · have e2 : (c.op == 12) = false := beq_f h12
        rw [if_neg (show ¬ bindB c.op = true by simp [bindB, h11, h12])]
        simp only [go_sem, ↓reduceIte, c1, e1, e2]
set_option maxHeartbeats 2000000 in
theorem fair_ev (c : Cl) (hc : okC c) (n : Int) (ro : Nat) (m : Mem) (hro : ro ≤ m.length) :
    evL Tryz.prog AnZ ro 15 [.c (encC c), .c (.v (.int .i64 n))] m = some (.c (.v (.bool (decide (sizeC c ≤ 40) && decide ((nestC c : Int) ≤ n)))), m) := by
  have hro1 : ro ≤ m.length + 1 := by omega
  have h1 := fun ro m hro => upZ (big_ev c hc 40 (by omega) ro m hro)
  have e40 : ((40 : Nat) : Int) = 40 := rfl
  simp only [e40] at h1
  refine evL_by (n := 14) (by kernel_rfl) rfl fn15 rfl rfl rfl rfl ?_
  by_cases hb : sizeC c ≤ 40
  · have d : decide (40 < sizeC c) = false := dec_f (by omega)
    have h2 := fun ro m hro => nest_ev 40 c hb hc (by omega) ro m hro
    rw [dec_t hb]
    cases d2 : decide ((nestC c : Int) ≤ n) <;> simp only [go_sem, ↓reduceIte, h1, h2, d, d2, hro, hro1, Bool.true_and]
  · have d : decide (40 < sizeC c) = true := dec_t (by omega)
    rw [dec_f hb]
    simp only [go_sem, ↓reduceIte, h1, d, hro, hro1, Bool.false_and]
mutual
theorem tyC_ok {s : Sg} {vs : List Va} : ∀ {c : Cl} {bs : List ByteArray}, tyC s vs (fun _ => True) bs c → okC c → tyC s vs okT bs c
  | .mk op nm so ts ss, bs, h, hc => by
    rw [tyC] at h ⊢
    obtain ⟨h1, h2, h3, h4, h5, h6, h7⟩ := h
    exact ⟨h1, h2, h3, h4, fun x hx => hc.arg.1 x hx, h6, tyCs_ok h7 (fun x hx => hc.arg.2 x hx)⟩
theorem tyCs_ok {s : Sg} {vs : List Va} : ∀ {l : List Cl} {bs : List ByteArray}, tyCs s vs (fun _ => True) bs l → (∀ x ∈ l, okC x) → tyCs s vs okT bs l
  | [], _, _, _ => by simp [tyCs]
  | x :: r, bs, h, hc => by
    simp only [tyCs] at h ⊢
    exact ⟨tyC_ok h.1 (hc x (by simp)), tyCs_ok h.2 (fun y hy => hc y (by simp [hy]))⟩
end
end Go.Eng
