-- own work: an evaluator of the program's code, and what it answers
import Derived.Test.YtdmoipccmbimhaaGreatDoorY2
/- Whether a claim holds in a world. -/
set_option maxRecDepth 100000
set_option linter.unusedVariables false
set_option linter.unusedSimpArgs false
namespace Go.Eng
open Go Go.Proofs
def cBo (b : Bool) : C := .v (.bool b)
set_option maxHeartbeats 4000000 in
theorem joined_ev (op : Int) (l : List Bool) (h6 : op = 6 → l.length = 1) (h7 : 7 ≤ op ∧ op ≤ 10 → l.length = 2) (ro : Nat) (m : Mem) :
    evL Tryz.prog AnZ ro 80 [.c (.v (.int .i64 op)), .c (.sl (l.map cBo))] m = some (.c (.v (.bool (joinV op l))), m) := by
  refine evL_by (n := 54) (by kernel_rfl) rfl fn80 rfl rfl rfl rfl ?_
  unfold joinV
  by_cases o6 : op = 6
  · subst o6
    obtain ⟨a, rfl⟩ := len_one (h6 rfl)
    have e : ((6 : Int) == 6) = true := rfl
    simp only [go_sem, ↓reduceIte, e, List.map_cons, List.map_nil, cBo]
  by_cases o7 : op = 7
  · subst o7
    obtain ⟨a, b, rfl⟩ := len_two (h7 (by decide))
    have e : ((7 : Int) == 6) = false := rfl
    have e7 : ((7 : Int) == 7) = true := rfl
    cases a <;> simp only [go_sem, ↓reduceIte, e, e7, List.map_cons, List.map_nil, cBo] <;> rfl
  by_cases o8 : op = 8
  · subst o8
    obtain ⟨a, b, rfl⟩ := len_two (h7 (by decide))
    have e : ((8 : Int) == 6) = false := rfl
    have e7 : ((8 : Int) == 7) = false := rfl
    have e8 : ((8 : Int) == 8) = true := rfl
    cases a <;> simp only [go_sem, ↓reduceIte, e, e7, e8, List.map_cons, List.map_nil, cBo] <;> rfl
  by_cases o9 : op = 9
  · subst o9
    obtain ⟨a, b, rfl⟩ := len_two (h7 (by decide))
    have e : ((9 : Int) == 6) = false := rfl
    have e7 : ((9 : Int) == 7) = false := rfl
    have e8 : ((9 : Int) == 8) = false := rfl
    have e9 : ((9 : Int) == 9) = true := rfl
    cases a <;> simp only [go_sem, ↓reduceIte, e, e7, e8, e9, List.map_cons, List.map_nil, cBo] <;> rfl
  by_cases o10 : op = 10
  · subst o10
    obtain ⟨a, b, rfl⟩ := len_two (h7 (by decide))
    have e : ((10 : Int) == 6) = false := rfl
    have e7 : ((10 : Int) == 7) = false := rfl
    have e8 : ((10 : Int) == 8) = false := rfl
    have e9 : ((10 : Int) == 9) = false := rfl
    have e10 : ((10 : Int) == 10) = true := rfl
    simp only [go_sem, ↓reduceIte, e, e7, e8, e9, e10, List.map_cons, List.map_nil, cBo]
    rfl
  have e : (op == 6) = false := beq_f o6
  have e7 : (op == 7) = false := beq_f o7
  have e8 : (op == 8) = false := beq_f o8
  have e9 : (op == 9) = false := beq_f o9
  have e10 : (op == 10) = false := beq_f o10
  have e1 : (op == 1) = decide (op = 1) := rfl
  rw [if_neg o6, if_neg o7, if_neg o8, if_neg o9, if_neg o10]
  simp only [go_sem, ↓reduceIte, e, e7, e8, e9, e10, e1]
theorem I_snoc (l : List Int) (x : Int) : List.map cI l ++ [C.v (.int .i64 x)] = List.map cI (l ++ [x]) := by simp [cI]
/-- the machine tells whether a claim holds -/
def ClaimOK (s : Sg) (w : Wd) (vs : List Va) (env : List Bd) (bnd : List Int) (c : Cl) : Prop :=
  ∀ ro m, ro ≤ m.length → evL Tryz.prog AnZ ro 51 [.c (encM s w vs env bnd), .c (encC c)] m = some (.tup (encBP (holdsV s w vs env bnd c)), m)
theorem bindGo_zero {g : Int → Bool × Int} {all : Bool} {v : Int} {acc : Bool} : bindGo g all 0 v acc = (acc, 0) := rfl
theorem bindGo_bad {g : Int → Bool × Int} {all : Bool} {v : Int} {acc : Bool} {k : Nat} (h : (g v).2 ≠ 0) : bindGo g all (k + 1) v acc = (false, (g v).2) := by rw [bindGo, if_pos h]
theorem bindGo_good {g : Int → Bool × Int} {all : Bool} {v : Int} {acc : Bool} {k : Nat} (h : (g v).2 = 0) : bindGo g all (k + 1) v acc = bindGo g all k (v + 1) (if (g v).1 = all then acc else !all) := by rw [bindGo, if_neg (by simpa using h)]
set_option maxHeartbeats 8000000 in
theorem binder_ev (s : Sg) (w : Wd) (vs : List Va) (env : List Bd) (bnd : List Int) (h : RoomOK s w) (c x : Cl) (hss : c.ss = [x]) (hb : bnd.length ≤ 100000)
    (hsub : ∀ v : Int, 0 ≤ v → v < sizeI s.sorts w.sizes c.so → ClaimOK s w vs env (bnd ++ [v]) x) (ro : Nat) (m : Mem) (hro : ro ≤ m.length) :
    evL Tryz.prog AnZ ro 78 [.c (encM s w vs env bnd), .c (encC c)] m = some (.tup (encBP (if beqS c.so sInt = true then (false, 1) else bindGo (fun v => holdsV s w vs env (bnd ++ [v]) x) (c.op == 11) (sizeI s.sorts w.sizes c.so).toNat 0 (c.op == 11))), m) := by
  have hro1 : ro ≤ m.length + 1 := by omega
  have hp := (sizedE_ok h.hs h.sized.1).1
  refine evL_by (n := 60) (by kernel_rfl) rfl fn78 rfl rfl rfl rfl ?_
  cases hi : beqS c.so sInt with
  | true => simp only [go_sem, ↓reduceIte, hi, encBP]
  | false =>
    have hbd := h.bd c.so
    have hfs : ∃ r, findC .string (.string c.so) (keysC s.sorts) (valsC w.sizes) = some r ∧ (r = some (.v (.int .i64 (sizeI s.sorts w.sizes c.so))) ∨ (r = none ∧ sizeI s.sorts w.sizes c.so = 0)) := by
      rcases find_sizes s.sorts w.sizes hp.len c.so with hf | ⟨hf, h0⟩
      · exact ⟨_, hf, .inl rfl⟩
      · exact ⟨_, hf, .inr ⟨rfl, h0⟩⟩
    obtain ⟨r, hf, hr⟩ := hfs
    generalize sizeI s.sorts w.sizes c.so = z at hbd hr hsub ⊢
    obtain ⟨N, rfl⟩ : ∃ N : Nat, z = N := ⟨z.toNat, by omega⟩
    rw [Int.toNat_natCast]
    generalize hal : (c.op == 11) = al
    have hsub' := fun (v : Nat) (hv : v < N) => hsub v (by omega) (by omega)
    unfold ClaimOK at hsub'
    have cN := hbd.2
    have d1 : (bnd.length + 1) * 8 ≤ 140737488355328 := by omega
    have d2 : bnd.length + 1 ≤ 9223372036854775807 := by omega
    rcases hr with rfl | ⟨rfl, h0⟩
    · simp only [go_sem, ↓reduceIte, hi, hf, hal, Bool.false_eq_true]
      generalize hL : loopW _ _ = L
      obtain ⟨⟨i, acc⟩, ⟨k1, k2⟩, hE, rfl⟩ := loopW_at hL (fun (q : Nat × Bool) => [(7, .c (.v (.bool q.2))), (24, .c (.v (.int .i64 q.1)))]) (fun _ => [] :: m)
        (fun q => q.1 ≤ N ∧ bindGo (fun v => holdsV s w vs env (bnd ++ [v]) x) al N 0 al = bindGo (fun v => holdsV s w vs env (bnd ++ [v]) x) al (N - q.1) q.1 q.2)
        (fun q => q.1 = N ∨ (holdsV s w vs env (bnd ++ [(q.1 : Int)]) x).2 ≠ 0) (fun q => N - q.1) (0, al) rfl rfl ⟨by simp, by simp⟩ (by
        rintro ⟨i, acc⟩ ⟨k1, k2⟩ hE
        simp only [not_or] at hE k1 k2
        obtain ⟨k4, k5⟩ := hE
        have c1 : decide ((i : Int) < (N : Int)) = true := dec_t (by omega)
        have c3 : IntKind.i64.wrap ((i : Int) + 1) = ((i + 1 : Nat) : Int) := wrap64 (by omega) (by omega)
        have hc := hsub' i (by omega)
        have hgood := bindGo_good (g := fun v => holdsV s w vs env (bnd ++ [v]) x) (all := al) (acc := acc) (k := N - (i + 1)) (v := (i : Int)) (by simpa using k5)
        have hN : N - i = N - (i + 1) + 1 := by omega
        generalize holdsV s w vs env (bnd ++ [(i : Int)]) x = q at hc k5 hgood
        obtain ⟨ok, e⟩ := q
        simp only at k5 hgood
        have c2 : (e != 0) = false := by simpa using k5
        refine ⟨(i + 1, if ok = al then acc else !al), ⟨by simp only; omega, ?_⟩, by simp only; omega, ?_⟩
        · rw [k2, hN, hgood]; simp
        · rw [round_go]
          by_cases hoa : ok = al
          · have c4 : (!(ok == al)) = false := by rw [hoa]; cases al <;> rfl
            rw [if_pos hoa]
            simp only [go_sem, ↓reduceIte, c1, c2, c3, c4, d1, d2, hss, List.map_cons, List.map_nil, I_snoc, hc, encBP, hro1, hro]
          · have c4 : (!(ok == al)) = true := by cases ok <;> cases al <;> first | rfl | exact absurd rfl hoa
            rw [if_neg hoa]
            simp only [go_sem, ↓reduceIte, c1, c2, c3, c4, d1, d2, hss, List.map_cons, List.map_nil, I_snoc, hc, encBP, hro1, hro])
      clear hL
      simp only at k1 k2 hE
      rw [loopW_go, k2]
      by_cases hi2 : i = N
      · have c1 : decide ((i : Int) < (N : Int)) = false := dec_f (by omega)
        rw [hi2, Nat.sub_self, bindGo_zero]
        rw [hi2] at c1
        simp only [go_sem, ↓reduceIte, c1, encBP]
      · have hbad := hE.resolve_left hi2
        have c1 : decide ((i : Int) < (N : Int)) = true := dec_t (by omega)
        have hc := hsub' i (by omega)
        have hN : N - i = N - (i + 1) + 1 := by omega
        have hb2 := bindGo_bad (g := fun v => holdsV s w vs env (bnd ++ [v]) x) (all := al) (acc := acc) (k := N - (i + 1)) (v := (i : Int)) hbad
        rw [hN, hb2]
        try simp only
        generalize holdsV s w vs env (bnd ++ [(i : Int)]) x = q at hc hbad ⊢
        obtain ⟨ok, e⟩ := q
        simp only at hbad
        have c2 : (e != 0) = true := by simpa using hbad
        simp only [go_sem, ↓reduceIte, c1, c2, d1, d2, hss, List.map_cons, List.map_nil, I_snoc, hc, encBP, hro1, hro]
    · have hN0 : N = 0 := by omega
      subst hN0
      simp only [go_sem, ↓reduceIte, hi, hf, hal, Bool.false_eq_true]
      rw [loopW_go, bindGo_zero]
      have c1 : decide ((0 : Int) < (0 : Int)) = false := rfl
      simp only [go_sem, ↓reduceIte, c1, encBP]
end Go.Eng
