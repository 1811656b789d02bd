-- own work: an evaluator of the program's code, and what it answers
import Derived.Test.YtdmoipccmbimhaaGreatDoorY2
/- Whether a claim holds in a world. -/
set_option maxRecDepth 100000
set_option linter.unusedVariables false
set_option linter.unusedSimpArgs false
namespace Go.Eng
open Go Go.Proofs
def cBo (b : Bool) : C := .v (.bool b)
set_option maxHeartbeats 4000000 in
theorem joined_ev (op : Int) (l : List Bool) (h6 : op = 6 → l.length = 1) (h7 : 7 ≤ op ∧ op ≤ 10 → l.length = 2) (ro : Nat) (m : Mem) :
    evL Tryz.prog AnZ ro 80 [.c (.v (.int .i64 op)), .c (.sl (l.map cBo))] m = some (.c (.v (.bool (joinV op l))), m) := by
  refine evL_by (n := 54) (by kernel_rfl) rfl fn80 rfl rfl rfl rfl ?_
  unfold joinV
  by_cases o6 : op = 6
  · subst o6
    obtain ⟨a, rfl⟩ := len_one (h6 rfl)
    have e : ((6 : Int) == 6) = true := rfl
    simp only [go_sem, ↓reduceIte, e, List.map_cons, List.map_nil, cBo]
  by_cases o7 : op = 7
  · subst o7
    obtain ⟨a, b, rfl⟩ := len_two (h7 (by decide))
    have e : ((7 : Int) == 6) = false := rfl
    have e7 : ((7 : Int) == 7) = true := rfl
    cases a <;> simp only [go_sem, ↓reduceIte, e, e7, List.map_cons, List.map_nil, cBo] <;> rfl
  by_cases o8 : op = 8
  · subst o8
    obtain ⟨a, b, rfl⟩ := len_two (h7 (by decide))
    have e : ((8 : Int) == 6) = false := rfl
    have e7 : ((8 : Int) == 7) = false := rfl
    have e8 : ((8 : Int) == 8) = true := rfl
    cases a <;> simp only [go_sem, ↓reduceIte, e, e7, e8, List.map_cons, List.map_nil, cBo] <;> rfl
  by_cases o9 : op = 9
  · subst o9
    obtain ⟨a, b, rfl⟩ := len_two (h7 (by decide))
    have e : ((9 : Int) == 6) = false := rfl
    have e7 : ((9 : Int) == 7) = false := rfl
    have e8 : ((9 : Int) == 8) = false := rfl
    have e9 : ((9 : Int) == 9) = true := rfl
    cases a <;> simp only [go_sem, ↓reduceIte, e, e7, e8, e9, List.map_cons, List.map_nil, cBo] <;> rfl
  by_cases o10 : op = 10
  · subst o10
    obtain ⟨a, b, rfl⟩ := len_two (h7 (by decide))
    have e : ((10 : Int) == 6) = false := rfl
    have e7 : ((10 : Int) == 7) = false := rfl
    have e8 : ((10 : Int) == 8) = false := rfl
    have e9 : ((10 : Int) == 9) = false := rfl
    have e10 : ((10 : Int) == 10) = true := rfl
    simp only [go_sem, ↓reduceIte, e, e7, e8, e9, e10, List.map_cons, List.map_nil, cBo]
    rfl
  have e : (op == 6) = false := beq_f o6
  have e7 : (op == 7) = false := beq_f o7
  have e8 : (op == 8) = false := beq_f o8
  have e9 : (op == 9) = false := beq_f o9
  have e10 : (op == 10) = false := beq_f o10
  have e1 : (op == 1) = decide (op = 1) := rfl
  rw [if_neg o6, if_neg o7, if_neg o8, if_neg o9, if_neg o10]
  simp only [go_sem, ↓reduceIte, e, e7, e8, e9, e10, e1]
theorem I_snoc (l : List Int) (x : Int) : List.map cI l ++ [C.v (.int .i64 x)] = List.map cI (l ++ [x]) := by simp [cI]
/-- the machine tells whether a claim holds -/
def ClaimOK (s : Sg) (w : Wd) (vs : List Va) (env : List Bd) (bnd : List Int) (c : Cl) : Prop :=
  ∀ ro m, ro ≤ m.length → evL Tryz.prog AnZ ro 51 [.c (encM s w vs env bnd), .c (encC c)] m = some (.tup (encBP (holdsV s w vs env bnd c)), m)
theorem bindGo_zero {g : Int → Bool × Int} {all : Bool} {v : Int} {acc : Bool} : bindGo g all 0 v acc = (acc, 0) := rfl
theorem bindGo_bad {g : Int → Bool × Int} {all : Bool} {v : Int} {acc : Bool} {k : Nat} (h : (g v).2 ≠ 0) : bindGo g all (k + 1) v acc = (false, (g v).2) := by rw [bindGo, if_pos h]
theorem bindGo_good {g : Int → Bool × Int} {all : Bool} {v : Int} {acc : Bool} {k : Nat} (h : (g v).2 = 0) : bindGo g all (k + 1) v acc = bindGo g all k (v + 1) (if (g v).1 = all then acc else !all) := by rw [bindGo, if_neg (by simpa using h)]
set_option maxHeartbeats 8000000 in
theorem binder_ev (s : Sg) (w : Wd) (vs : List Va) (env : List Bd) (bnd : List Int) (h : RoomOK s w) (c x : Cl) (hss : c.ss = [x]) (hb : bnd.length ≤ 100000)
    (hsub : ∀ v : Int, 0 ≤ v → v < sizeI s.sorts w.sizes c.so → ClaimOK s w vs env (bnd ++ [v]) x) (ro : Nat) (m : Mem) (hro : ro ≤ m.length) :
    evL Tryz.prog AnZ ro 78 [.c (encM s w vs env bnd), .c (encC c)] m = some (.tup (encBP (if beqS c.so sInt = true then (false, 1) else bindGo (fun v => holdsV s w vs env (bnd ++ [v]) x) (c.op == 11) (sizeI s.sorts w.sizes c.so).toNat 0 (c.op == 11))), m) := by
  have hro1 : ro ≤ m.length + 1 := by omega
  have hp := (sizedE_ok h.hs h.sized.1).1
  refine evL_by (n := 60) (by kernel_rfl) rfl fn78 rfl rfl rfl rfl ?_
  cases hi : beqS c.so sInt with
  | true => simp only [go_sem, ↓reduceIte, hi, encBP]
  | false =>
    have hbd := h.bd c.so
    have hfs : ∃ r, findC .string (.string c.so) (keysC s.sorts) (valsC w.sizes) = some r ∧ (r = some (.v (.int .i64 (sizeI s.sorts w.sizes c.so))) ∨ (r = none ∧ sizeI s.sorts w.sizes c.so = 0)) := by
      rcases find_sizes s.sorts w.sizes hp.len c.so with hf | ⟨hf, h0⟩
      · exact ⟨_, hf, .inl rfl⟩
      · exact ⟨_, hf, .inr ⟨rfl, h0⟩⟩
    obtain ⟨r, hf, hr⟩ := hfs
    generalize sizeI s.sorts w.sizes c.so = z at hbd hr hsub ⊢
    obtain ⟨N, rfl⟩ : ∃ N : Nat, z = N := ⟨z.toNat, by omega⟩
    rw [Int.toNat_natCast]
    generalize hal : (c.op == 11) = al
    have hsub' := fun (v : Nat) (hv : v < N) => hsub v (by omega) (by omega)
    unfold ClaimOK at hsub'
    have cN := hbd.2
    have d1 : (bnd.length + 1) * 8 ≤ 140737488355328 := by omega
    have d2 : bnd.length + 1 ≤ 9223372036854775807 := by omega
    rcases hr with rfl | ⟨rfl, h0⟩
    · simp only [go_sem, ↓reduceIte, hi, hf, hal, Bool.false_eq_true]
      generalize hL : loopW _ _ = L
      obtain ⟨⟨i, acc⟩, ⟨k1, k2⟩, hE, rfl⟩ := loopW_at hL (fun (q : Nat × Bool) => [(7, .c (.v (.bool q.2))), (24, .c (.v (.int .i64 q.1)))]) (fun _ => [] :: m)
        (fun q => q.1 ≤ N ∧ bindGo (fun v => holdsV s w vs env (bnd ++ [v]) x) al N 0 al = bindGo (fun v => holdsV s w vs env (bnd ++ [v]) x) al (N - q.1) q.1 q.2)
        (fun q => q.1 = N ∨ (holdsV s w vs env (bnd ++ [(q.1 : Int)]) x).2 ≠ 0) (fun q => N - q.1) (0, al) rfl rfl ⟨by simp, by simp⟩ (by
        rintro ⟨i, acc⟩ ⟨k1, k2⟩ hE
        simp only [not_or] at hE k1 k2
        obtain ⟨k4, k5⟩ := hE
        have c1 : decide ((i : Int) < (N : Int)) = true := dec_t (by omega)
        have c3 : IntKind.i64.wrap ((i : Int) + 1) = ((i + 1 : Nat) : Int) := wrap64 (by omega) (by omega)
        have hc := hsub' i (by omega)
        have hgood := bindGo_good (g := fun v => holdsV s w vs env (bnd ++ [v]) x) (all := al) (acc := acc) (k := N - (i + 1)) (v := (i : Int)) (by simpa using k5)
        have hN : N - i = N - (i + 1) + 1 := by omega
        generalize holdsV s w vs env (bnd ++ [(i : Int)]) x = q at hc k5 hgood
        obtain ⟨ok, e⟩ := q
        simp only at k5 hgood
        have c2 : (e != 0) = false := by simpa using k5
        refine ⟨(i + 1, if ok = al then acc else !al), ⟨by simp only; omega, ?_⟩, by simp only; omega, ?_⟩
        · rw [k2, hN, hgood]; simp
        · rw [round_go]
          by_cases hoa : ok = al
          · have c4 : (!(ok == al)) = false := by rw [hoa]; cases al <;> rfl
            rw [if_pos hoa]
            simp only [go_sem, ↓reduceIte, c1, c2, c3, c4, d1, d2, hss, List.map_cons, List.map_nil, I_snoc, hc, encBP, hro1, hro]
          · have c4 : (!(ok == al)) = true := by cases ok <;> cases al <;> first | rfl | exact absurd rfl hoa
            rw [if_neg hoa]
            simp only [go_sem, ↓reduceIte, c1, c2, c3, c4, d1, d2, hss, List.map_cons, List.map_nil, I_snoc, hc, encBP, hro1, hro])
      clear hL
      simp only at k1 k2 hE
      rw [loopW_go, k2]
      by_cases hi2 : i = N
      · have c1 : decide ((i : Int) < (N : Int)) = false := dec_f (by omega)
        rw [hi2, Nat.sub_self, bindGo_zero]
        rw [hi2] at c1
        simp only [go_sem, ↓reduceIte, c1, encBP]
      · have hbad := hE.resolve_left hi2
        have c1 : decide ((i : Int) < (N : Int)) = true := dec_t (by omega)
        have hc := hsub' i (by omega)
        have hN : N - i = N - (i + 1) + 1 := by omega
        have hb2 := bindGo_bad (g := fun v => holdsV s w vs env (bnd ++ [v]) x) (all := al) (acc := acc) (k := N - (i + 1)) (v := (i : Int)) hbad
        rw [hN, hb2]
        try simp only
        generalize holdsV s w vs env (bnd ++ [(i : Int)]) x = q at hc hbad ⊢
        obtain ⟨ok, e⟩ := q
        simp only at hbad
        have c2 : (e != 0) = true := by simpa using hbad
        simp only [go_sem, ↓reduceIte, c1, c2, d1, d2, hss, List.map_cons, List.map_nil, I_snoc, hc, encBP, hro1, hro]
    · have hN0 : N = 0 := by omega
      subst hN0
      simp only [go_sem, ↓reduceIte, hi, hf, hal, Bool.false_eq_true]
      rw [loopW_go, bindGo_zero]
      have c1 : decide ((0 : Int) < (0 : Int)) = false := rfl
      simp only [go_sem, ↓reduceIte, c1, encBP]
end Go.Eng
/- Whether a claim holds in a world: all of it. -/
set_option maxRecDepth 100000
set_option linter.unusedVariables false
set_option linter.unusedSimpArgs false
namespace Go.Eng
open Go Go.Proofs
theorem headOK_Bo (l : List Bool) : headOK 1 (l.map cBo) = true := by cases l <;> rfl
attribute [go_sem] headOK_Bo
theorem tysT_mem {s : Sg} {vs : List Va} {bs : List ByteArray} : ∀ {l : List Tm} {r : List ByteArray}, tysT s vs bs l r → ∀ x ∈ l, ∃ a, tyT s vs bs x a
  | [], _, _, x, hx => by cases hx
  | y :: l, a :: r, h, x, hx => by
    simp only [tysT] at h
    rcases List.mem_cons.1 hx with rfl | hx
    · exact ⟨a, h.1⟩
    · exact tysT_mem h.2 x hx
  | _ :: _, [], h, _, _ => by simp [tysT] at h
def restH (s : Sg) (w : Wd) (vs : List Va) (env : List Bd) (bnd : List Int) (out : List Bool) (r : List Cl) : List Bool × Int :=
  if (holdsS s w vs env bnd r).2 ≠ 0 then ([], (holdsS s w vs env bnd r).2) else (out ++ (holdsS s w vs env bnd r).1, 0)
theorem restH_nil {s : Sg} {w : Wd} {vs : List Va} {env : List Bd} {bnd : List Int} {out : List Bool} : restH s w vs env bnd out [] = (out, 0) := by simp [restH, holdsS]
theorem restH_bad {s : Sg} {w : Wd} {vs : List Va} {env : List Bd} {bnd : List Int} {out : List Bool} {x : Cl} {r : List Cl} (h : (holdsV s w vs env bnd x).2 ≠ 0) : restH s w vs env bnd out (x :: r) = ([], (holdsV s w vs env bnd x).2) := by
  simp only [restH, holdsS, if_pos h]
theorem restH_good {s : Sg} {w : Wd} {vs : List Va} {env : List Bd} {bnd : List Int} {out : List Bool} {x : Cl} {r : List Cl} (h : ¬ (holdsV s w vs env bnd x).2 ≠ 0) : restH s w vs env bnd out (x :: r) = restH s w vs env bnd (out ++ [(holdsV s w vs env bnd x).1]) r := by
  simp only [restH, holdsS, if_neg h]
  by_cases h2 : (holdsS s w vs env bnd r).2 ≠ 0
  · simp only [if_pos h2]
  · simp only [if_neg h2]; simp
theorem holdsS_err {s : Sg} {w : Wd} {vs : List Va} {env : List Bd} {bnd : List Int} : ∀ {l : List Cl}, (holdsS s w vs env bnd l).2 ≠ 0 → (holdsS s w vs env bnd l).1 = []
  | [], h => by simp [holdsS] at h
  | x :: r, h => by
    simp only [holdsS] at h ⊢
    split
    · rfl
    · split
      · rfl
      · rename_i h1 h2; rw [if_neg h1, if_neg h2] at h; simp at h
theorem holdsS_len {s : Sg} {w : Wd} {vs : List Va} {env : List Bd} {bnd : List Int} : ∀ {l : List Cl}, (holdsS s w vs env bnd l).2 = 0 → (holdsS s w vs env bnd l).1.length = l.length
  | [], h => by simp [holdsS]
  | x :: r, h => by
    simp only [holdsS] at h ⊢
    split at h
    · rename_i h1; exact absurd h h1
    · split at h
      · rename_i h2; exact absurd h h2
      · rename_i h1 h2
        rw [if_neg h1, if_neg h2]
        simp [holdsS_len (by simpa using h2)]
theorem restH_0 {s : Sg} {w : Wd} {vs : List Va} {env : List Bd} {bnd : List Int} {l : List Cl} : restH s w vs env bnd [] l = holdsS s w vs env bnd l := by
  unfold restH
  split
  · rename_i h
    have := holdsS_err h
    generalize holdsS s w vs env bnd l = q at *
    obtain ⟨a, b⟩ := q
    simp only at this
    rw [this]
  · rename_i h
    have h0 : (holdsS s w vs env bnd l).2 = 0 := by simpa using h
    generalize holdsS s w vs env bnd l = q at *
    obtain ⟨a, b⟩ := q
    simp only at h0
    subst h0
    simp
theorem holdsV_eq (s : Sg) (w : Wd) (vs : List Va) (env : List Bd) (bnd : List Int) (c : Cl) : holdsV s w vs env bnd c =
    if (valsV s w vs env bnd c.ts).2 ≠ 0 then (false, (valsV s w vs env bnd c.ts).2)
    else if bindB c.op = true then (if beqS c.so sInt = true then (false, 1) else bindGo (fun v => holdsH s w vs env (bnd ++ [v]) c.ss) (c.op == 11) (sizeI s.sorts w.sizes c.so).toNat 0 (c.op == 11))
    else if (holdsS s w vs env bnd c.ss).2 ≠ 0 then (false, (holdsS s w vs env bnd c.ss).2)
    else lastV s w c.op c.nm (valsV s w vs env bnd c.ts).1 (holdsS s w vs env bnd c.ss).1 := by
  cases c; rw [holdsV]; rfl
set_option maxHeartbeats 16000000 in
theorem claim_ev (s : Sg) (w : Wd) (vs : List Va) (env : List Bd) (h : RoomOK s w) (T : Tm → Prop)
    (hT : ∀ bs bnd x a, inR s w bs bnd → bs.length ≤ 50000 → tyT s vs bs x a → T x → TermOK s w vs env bnd x) :
    ∀ (d : Nat) (c : Cl) (bs : List ByteArray) (bnd : List Int), depC c ≤ d → tyC s vs T bs c → inR s w bs bnd → bs.length + d ≤ 50000 → ClaimOK s w vs env bnd c
  | 0, c, _, _, hd, _, _, _ => by cases c; simp [depC] at hd
  | d + 1, c, bs, bnd, hd, hty, hin, hbl => by
    intro ro m hro
    have hro1 : ro ≤ m.length + 1 := by omega
    have hlen := inR_len hin
    obtain ⟨⟨p1, p2, p3⟩, ⟨has, q1, q2⟩, q3, q4, q5, q6, q7⟩ : (1 ≤ c.op ∧ c.op ≤ 12 ∧ (c.ss.length : Int) = arityS c.op) ∧ (∃ has, tysT s vs bs c.ts has ∧ (c.op = 3 → ∃ f, findF s c.nm = (f, true) ∧ beqS f.res sBool = true ∧ has = f.args)) ∧ (c.op = 4 ∨ c.op = 5 → c.ts.length = 2) ∧ c.ts.length ≤ 8 ∧ (∀ x ∈ c.ts, T x) ∧ (bindB c.op = true → thingS s c.so = true) ∧ tyCs s vs T (if bindB c.op then bs ++ [c.so] else bs) c.ss := by
      cases c; rw [tyC] at hty; exact hty
    have hds : ∀ x ∈ c.ss, depC x ≤ d := fun x hx => by
      have := depCs_le hx
      rw [depC_eq] at hd
      omega
    have hall := fun ro m hro => all_ev s w vs env bnd c.ts (by omega) ro m hro (fun x hx => by
      obtain ⟨a, ha⟩ := tysT_mem q1 x hx
      exact hT bs bnd x a hin (by omega) ha (q5 x hx))
    rw [holdsV_eq]
    refine evL_by (n := 96) (by kernel_rfl) rfl fn51 rfl rfl rfl rfl ?_
    by_cases he : (valsV s w vs env bnd c.ts).2 ≠ 0
    · rw [if_pos he]
      generalize valsV s w vs env bnd c.ts = q at hall he ⊢
      obtain ⟨l, e⟩ := q
      simp only at he
      have c2 : (e != 0) = true := by simpa using he
      simp only [go_sem, ↓reduceIte, c2, hall, encQ, encBP, hro1, hro]
    rw [if_neg he]
    have hvl := valsV_len (s := s) (w := w) (vs := vs) (env := env) (bnd := bnd) (l := c.ts) (by simpa using he)
    have hvin := fun (f : Fu) (hf : c.op = 3 → findF s c.nm = (f, true) ∧ has = f.args) (h3 : c.op = 3) (hw : wholeB f = false) => vals_in h vs env hin c.ts f.args (by rw [← (hf h3).2]; exact q1) (by simpa using he) (args_not_int hw)
    generalize valsV s w vs env bnd c.ts = q at hall he hvl hvin ⊢
    obtain ⟨l, e⟩ := q
    simp only at he hvl hvin
    have c2 : (e != 0) = false := by simpa using he
    have he0 : e = 0 := by simpa using he
    subst he0
    by_cases hb : bindB c.op = true
    · rw [if_pos hb]
      rw [if_pos hb] at q7
      have h1 : c.ss.length = 1 := by
        have : c.op = 11 ∨ c.op = 12 := by simpa [bindB] using hb
        have : arityS c.op = 1 := by rcases this with h | h <;> rw [h] <;> rfl
        omega
      obtain ⟨x, hx⟩ := len_one h1
      have hsub : ∀ v : Int, 0 ≤ v → v < sizeI s.sorts w.sizes c.so → ClaimOK s w vs env (bnd ++ [v]) x := fun v v0 v1 =>
        claim_ev s w vs env h T hT d x (bs ++ [c.so]) (bnd ++ [v]) (hds x (by rw [hx]; simp)) (tyCs_mem q7 x (by rw [hx]; simp)) (inR_snoc hin ⟨v0, v1⟩) (by simp; omega)
      have hbi := fun ro m hro => binder_ev s w vs env bnd h c x hx (by omega) hsub ro m hro
      have hH : (fun v => holdsH s w vs env (bnd ++ [v]) c.ss) = fun v => holdsV s w vs env (bnd ++ [v]) x := by funext v; rw [hx, holdsH]
      rw [hH]
      generalize (if beqS c.so sInt = true then (false, (1 : Int)) else bindGo (fun v => holdsV s w vs env (bnd ++ [v]) x) (c.op == 11) (sizeI s.sorts w.sizes c.so).toNat 0 (c.op == 11)) = r at hbi ⊢
      obtain ⟨rb, re⟩ := r
      have hb' : c.op = 11 ∨ c.op = 12 := by simpa [bindB] using hb
      rcases hb' with h11 | h12
      · have e1 : (c.op == 11) = true := beq_t h11
        simp only [go_sem, ↓reduceIte, c2, e1, hall, hbi, encQ, encBP, hro1, hro]
      · have e1 : (c.op == 11) = false := beq_f (by omega)
        have e2 : (c.op == 12) = true := beq_t h12
        simp only [go_sem, ↓reduceIte, c2, e1, e2, hall, hbi, encQ, encBP, hro1, hro]
    rw [if_neg hb]
    rw [if_neg hb] at q7
    have hb' : c.op ≠ 11 ∧ c.op ≠ 12 := by simpa [bindB] using hb
    have e11 : (c.op == 11) = false := beq_f hb'.1
    have e12 : (c.op == 12) = false := beq_f hb'.2
    have hss2 : c.ss.length ≤ 2 := by
      have : arityS c.op ≤ 2 := by unfold arityS; split <;> (try split) <;> omega
      omega
    have hsubs : ∀ x ∈ c.ss, ClaimOK s w vs env bnd x := fun x hx => claim_ev s w vs env h T hT d x bs bnd (hds x hx) (tyCs_mem q7 x hx) hin (by omega)
    simp only [go_sem, ↓reduceIte, c2, e11, e12, hall, encQ, hro1, hro]
    generalize hL : loopW _ _ = L
    obtain ⟨⟨i, out⟩, ⟨k1, k2, k3⟩, hE, rfl⟩ := loopW_at hL (fun (q : Nat × List Bool) => [(8, .tip (if q.1 = 0 then none else some 1) (q.2.map cBo)), (41, .c (.v (.int .i64 q.1)))]) (fun _ => [] :: m)
      (fun q => q.1 ≤ c.ss.length ∧ q.2.length = q.1 ∧ holdsS s w vs env bnd c.ss = restH s w vs env bnd q.2 (c.ss.drop q.1))
      (fun q => q.1 = c.ss.length ∨ ∃ x, c.ss[q.1]? = some x ∧ (holdsV s w vs env bnd x).2 ≠ 0) (fun q => c.ss.length - q.1) (0, []) rfl rfl ⟨by simp, rfl, by simp [restH_0]⟩ (by
      rintro ⟨i, out⟩ ⟨k1, k2, k3⟩ hE
      simp only [not_or, not_exists, not_and] at hE k1 k2 k3
      obtain ⟨k4, k5⟩ := hE
      obtain ⟨x, hx⟩ : ∃ x, c.ss[i]? = some x := ⟨_, List.getElem?_eq_getElem (by omega)⟩
      have c1 : decide ((i : Int) < (c.ss.length : Int)) = true := dec_t (by omega)
      have c3 : IntKind.i64.wrap ((i : Int) + 1) = ((i + 1 : Nat) : Int) := wrap64 (by omega) (by omega)
      have hc := hsubs x (List.mem_of_getElem? hx)
      unfold ClaimOK at hc
      have k6 := k5 x hx
      have hrest := restH_good (out := out) (r := c.ss.drop (i + 1)) k6
      generalize holdsV s w vs env bnd x = q at hc k6 hrest
      obtain ⟨v, e⟩ := q
      simp only at k6 hrest
      have c2 : (e != 0) = false := by simpa using k6
      have c4 : (i + 1 = 0) = False := by simp
      have c5 : (out.length + 1) * 1 ≤ 140737488355328 := by omega
      have c7 : out.length + 1 ≤ 140737488355328 := by omega
      have c6 : out.length + 1 ≤ 9223372036854775807 := by omega
      refine ⟨(i + 1, out ++ [v]), ⟨by simp only; omega, by simp [k2], ?_⟩, by simp only; omega, ?_⟩
      · rw [k3, drop_get hx, hrest]
      · have hos : (if i = 0 then none else some 1 : Option Nat) = none ∨ (if i = 0 then none else some 1 : Option Nat) = some 1 := by split <;> simp
        rw [round_go]
        simp only
        generalize (if i = 0 then none else some 1 : Option Nat) = os at hos ⊢
        simp only [go_sem, ↓reduceIte, c1, c2, c3, c4, c5, c6, c7, hos, hx, hc, encBP, hro1, hro]
        rw [← map_snoc]; rfl)
    clear hL
    simp only at k1 k2 k3 hE
    rw [loopW_go, k3]
    by_cases hi : i = c.ss.length
    · have c1 : decide ((i : Int) < (c.ss.length : Int)) = false := dec_f (by omega)
      rw [List.drop_eq_nil_of_le (by omega), restH_nil]
      rw [if_neg (show ¬ ((out, (0 : Int)).2 ≠ 0) by simp)]
      dsimp only
      unfold lastV
      by_cases o3 : c.op = 3
      · obtain ⟨f, hf, hres, hhas⟩ := q2 o3
        have hap := fun ro m hro => apply_ev s w vs env bnd h c.nm f hf l (hvin f (fun _ => ⟨hf, hhas⟩) o3) ro m hro
        rw [if_pos o3]
        generalize appV s w c.nm l = r at hap ⊢
        obtain ⟨rv, re⟩ := r
        have e3 : (c.op == 3) = true := beq_t o3
        have e1 : (rv == 1) = decide (rv = 1) := rfl
        simp only [go_sem, ↓reduceIte, c1, e3, hap, encP, encBP, hro1, hro, e1]
      have e3 : (c.op == 3) = false := beq_f o3
      rw [if_neg o3]
      by_cases o4 : c.op = 4
      · obtain ⟨a, b, rfl⟩ := len_two (hvl.trans (q3 (.inl o4)))
        have e4 : (c.op == 4) = true := beq_t o4
        have e5 : (a == b) = decide (a = b) := rfl
        rw [if_pos o4]
        simp only [go_sem, ↓reduceIte, c1, e3, e4, e5, encBP, hro1, hro, List.map_cons, List.map_nil, List.getD_cons_zero, List.getD_cons_succ]
        try rfl
      have e4 : (c.op == 4) = false := beq_f o4
      rw [if_neg o4]
      by_cases o5 : c.op = 5
      · obtain ⟨a, b, rfl⟩ := len_two (hvl.trans (q3 (.inr o5)))
        have e5 : (c.op == 5) = true := beq_t o5
        rw [if_pos o5]
        simp only [go_sem, ↓reduceIte, c1, e3, e4, e5, encBP, hro1, hro, List.map_cons, List.map_nil, List.getD_cons_zero, List.getD_cons_succ]
        try rfl
      have e5 : (c.op == 5) = false := beq_f o5
      rw [if_neg o5]
      have hj := fun ro m => joined_ev c.op out (fun e => by rw [e] at p3; have : arityS 6 = 1 := rfl; omega) (fun e => by
        have : arityS c.op = 2 := by unfold arityS; rw [if_neg (by omega), if_pos e]
        omega) ro m
      simp only [go_sem, ↓reduceIte, c1, e3, e4, e5, hj, encBP, hro1, hro]
    · obtain ⟨x, hx, hbad⟩ := hE.resolve_left hi
      have hil := (List.getElem?_eq_some_iff.1 hx).1
      have c1 : decide ((i : Int) < (c.ss.length : Int)) = true := dec_t (by omega)
      have hc := hsubs x (List.mem_of_getElem? hx)
      unfold ClaimOK at hc
      rw [drop_get hx, restH_bad hbad]
      rw [if_pos hbad]
      generalize holdsV s w vs env bnd x = q at hc hbad ⊢
      obtain ⟨v, e⟩ := q
      simp only at hbad
      have c2 : (e != 0) = true := by simpa using hbad
      simp only [go_sem, ↓reduceIte, c1, c2, hx, hc, encBP, hro1, hro]
end Go.Eng
