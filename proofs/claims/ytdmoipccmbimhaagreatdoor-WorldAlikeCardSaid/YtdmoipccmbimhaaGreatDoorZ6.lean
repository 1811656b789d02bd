-- own work: an evaluator of the program's code, and what it answers
import Derived.Test.YtdmoipccmbimhaaGreatDoorY1
/- A room of a world: what holds terms' values; the values of a list of terms. -/
set_option maxRecDepth 100000
set_option linter.unusedVariables false
set_option linter.unusedSimpArgs false
namespace Go.Eng
open Go Go.Proofs
def encB (b : Bd) : C := .agg [cS b.nm, cI b.val]
theorem encB_cells {b : Bd} : (encB b).cells = [.v (.string b.nm), .v (.int .i64 b.val)] := rfl
theorem encB_fold {b : Bd} : C.agg [.v (.string b.nm), .v (.int .i64 b.val)] = encB b := rfl
theorem encB_agg {b : Bd} : (encB b).isAgg = true := rfl
def encM (s : Sg) (w : Wd) (vs : List Va) (env : List Bd) (bnd : List Int) : C := .agg [.sl (s.sorts.map cS), .sl (s.funs.map encF), .sl (w.sizes.map cI), .sl (w.tables.map encL), .mp (keysC s.sorts) (valsC w.sizes), .sl (vs.map encV), .sl (env.map encB), .sl (bnd.map cI)]
theorem encM_cells {s : Sg} {w : Wd} {vs : List Va} {env : List Bd} {bnd : List Int} : (encM s w vs env bnd).cells = [.sl (s.sorts.map cS), .sl (s.funs.map encF), .sl (w.sizes.map cI), .sl (w.tables.map encL), .mp (keysC s.sorts) (valsC w.sizes), .sl (vs.map encV), .sl (env.map encB), .sl (bnd.map cI)] := rfl
theorem encM_fold {s : Sg} {w : Wd} {vs : List Va} {env : List Bd} {bnd : List Int} : C.agg [.sl (s.sorts.map cS), .sl (s.funs.map encF), .sl (w.sizes.map cI), .sl (w.tables.map encL), .mp (keysC s.sorts) (valsC w.sizes), .sl (vs.map encV), .sl (env.map encB), .sl (bnd.map cI)] = encM s w vs env bnd := rfl
theorem encM_agg {s : Sg} {w : Wd} {vs : List Va} {env : List Bd} {bnd : List Int} : (encM s w vs env bnd).isAgg = true := rfl
attribute [go_sem] encB_cells encB_fold encB_agg encM_cells encM_fold encM_agg
set_option maxHeartbeats 1000000 in
theorem of_ev (s : Sg) (w : Wd) (vs : List Va) (env : List Bd) (hp : sizesP s.sorts w.sizes) (ro : Nat) (m : Mem) (hro : ro ≤ m.length) :
    evL Tryz.prog AnZ ro 50 [.c (encS s), .c (encW w), .c (.sl (vs.map encV)), .c (.sl (env.map encB))] m = some (.c (encM s w vs env []), m) := by
  refine evL_by (n := 18) (by kernel_rfl) rfl fn50 rfl rfl rfl rfl ?_
  have h := fun ro m => sizes_ev s w.sizes hp ro m
  simp only [go_sem, ↓reduceIte, hro, h]
  rfl
def encP (x : Int × Int) : List V := [.c (.v (.int .i64 x.1)), .c (.v (.int .i64 x.2))]
def encQ (x : List Int × Int) : List V := [.c (.sl (x.1.map cI)), .c (.v (.int .i64 x.2))]
def encBP (x : Bool × Int) : List V := [.c (.v (.bool x.1)), .c (.v (.int .i64 x.2))]
/-- the machine tells a term's value -/
def TermOK (s : Sg) (w : Wd) (vs : List Va) (env : List Bd) (bnd : List Int) (t : Tm) : Prop :=
  ∀ ro m, ro ≤ m.length → evL Tryz.prog AnZ ro 57 [.c (encM s w vs env bnd), .c (encT t)] m = some (.tup (encP (valV s w vs env bnd t)), m)
/-- what a loop over the terms knows so far -/
def restV (s : Sg) (w : Wd) (vs : List Va) (env : List Bd) (bnd : List Int) (out : List Int) (r : List Tm) : List Int × Int :=
  if (valsV s w vs env bnd r).2 ≠ 0 then ([], (valsV s w vs env bnd r).2) else (out ++ (valsV s w vs env bnd r).1, 0)
theorem restV_nil {s : Sg} {w : Wd} {vs : List Va} {env : List Bd} {bnd out : List Int} : restV s w vs env bnd out [] = (out, 0) := by simp [restV, valsV]
theorem restV_bad {s : Sg} {w : Wd} {vs : List Va} {env : List Bd} {bnd out : List Int} {x : Tm} {r : List Tm} (h : (valV s w vs env bnd x).2 ≠ 0) : restV s w vs env bnd out (x :: r) = ([], (valV s w vs env bnd x).2) := by
  simp only [restV, valsV, if_pos h]
theorem restV_good {s : Sg} {w : Wd} {vs : List Va} {env : List Bd} {bnd out : List Int} {x : Tm} {r : List Tm} (h : ¬ (valV s w vs env bnd x).2 ≠ 0) : restV s w vs env bnd out (x :: r) = restV s w vs env bnd (out ++ [(valV s w vs env bnd x).1]) r := by
  simp only [restV, valsV, if_neg h]
  by_cases h2 : (valsV s w vs env bnd r).2 ≠ 0
  · simp only [if_pos h2]
  · simp only [if_neg h2]; simp
theorem valsV_err {s : Sg} {w : Wd} {vs : List Va} {env : List Bd} {bnd : List Int} : ∀ {l : List Tm}, (valsV s w vs env bnd l).2 ≠ 0 → (valsV s w vs env bnd l).1 = []
  | [], h => by simp [valsV] at h
  | x :: r, h => by
    simp only [valsV] at h ⊢
    split
    · rfl
    · split
      · rfl
      · rename_i h1 h2; rw [if_neg h1, if_neg h2] at h; simp at h
theorem valsV_len {s : Sg} {w : Wd} {vs : List Va} {env : List Bd} {bnd : List Int} : ∀ {l : List Tm}, (valsV s w vs env bnd l).2 = 0 → (valsV s w vs env bnd l).1.length = l.length
  | [], h => by simp [valsV]
  | x :: r, h => by
    simp only [valsV] at h ⊢
    split at h
    · rename_i h1; exact absurd h h1
    · split at h
      · rename_i h2; exact absurd h h2
      · rename_i h1 h2
        rw [if_neg h1, if_neg h2]
        simp [valsV_len (by simpa using h2)]
theorem restV_0 {s : Sg} {w : Wd} {vs : List Va} {env : List Bd} {bnd : List Int} {l : List Tm} : restV s w vs env bnd [] l = valsV s w vs env bnd l := by
  unfold restV
  split
  · rename_i h
    have := valsV_err h
    generalize valsV s w vs env bnd l = q at *
    obtain ⟨a, b⟩ := q
    simp only at this
    rw [this]
  · rename_i h
    have h0 : (valsV s w vs env bnd l).2 = 0 := by simpa using h
    generalize valsV s w vs env bnd l = q at *
    obtain ⟨a, b⟩ := q
    simp only at h0
    subst h0
    simp
set_option maxHeartbeats 4000000 in
theorem all_ev (s : Sg) (w : Wd) (vs : List Va) (env : List Bd) (bnd : List Int) (l : List Tm) (hl : l.length ≤ 100000) (ro : Nat) (m : Mem) (hro : ro ≤ m.length)
    (ht : ∀ x ∈ l, TermOK s w vs env bnd x) :
    evL Tryz.prog AnZ ro 77 [.c (encM s w vs env bnd), .c (.sl (l.map encT))] m = some (.tup (encQ (valsV s w vs env bnd l)), m) := by
  have hro1 : ro ≤ m.length + 1 := by omega
  refine evL_by (n := 32) (by kernel_rfl) rfl fn77 rfl rfl rfl rfl ?_
  simp only [go_sem, ↓reduceIte]
  generalize hL : loopW _ _ = L
  obtain ⟨⟨i, out⟩, ⟨k1, k2, k3⟩, hE, rfl⟩ := loopW_at hL (fun (q : Nat × List Int) => [(6, .tip (if q.1 = 0 then none else some 1) (q.2.map cI)), (13, .c (.v (.int .i64 q.1)))]) (fun _ => [] :: m)
    (fun q => q.1 ≤ l.length ∧ q.2.length = q.1 ∧ valsV s w vs env bnd l = restV s w vs env bnd q.2 (l.drop q.1))
    (fun q => q.1 = l.length ∨ ∃ x, l[q.1]? = some x ∧ (valV s w vs env bnd x).2 ≠ 0) (fun q => l.length - q.1) (0, []) rfl rfl ⟨by simp, rfl, by simp [restV_0]⟩ (by
    rintro ⟨i, out⟩ ⟨k1, k2, k3⟩ hE
    simp only [not_or, not_exists, not_and] at hE k1 k2 k3
    obtain ⟨k4, k5⟩ := hE
    obtain ⟨x, hx⟩ : ∃ x, l[i]? = some x := ⟨_, List.getElem?_eq_getElem (by omega)⟩
    have c1 : decide ((i : Int) < (l.length : Int)) = true := dec_t (by omega)
    have c3 : IntKind.i64.wrap ((i : Int) + 1) = ((i + 1 : Nat) : Int) := wrap64 (by omega) (by omega)
    have hc := ht x (List.mem_of_getElem? hx)
    unfold TermOK at hc
    have k6 := k5 x hx
    have hrest := restV_good (out := out) (r := l.drop (i + 1)) k6
    generalize valV s w vs env bnd x = q at hc k6 hrest
    obtain ⟨v, e⟩ := q
    simp only at k6 hrest
    have c2 : (e != 0) = false := by simpa using k6
    have c4 : (i + 1 = 0) = False := by simp
    have c5 : (out.length + 1) * 8 ≤ 140737488355328 := by omega
    have c6 : out.length + 1 ≤ 9223372036854775807 := by omega
    refine ⟨(i + 1, out ++ [v]), ⟨by simp only; omega, by simp [k2], ?_⟩, by simp only; omega, ?_⟩
    · rw [k3, drop_get hx, hrest]
    · have hos : (if i = 0 then none else some 1 : Option Nat) = none ∨ (if i = 0 then none else some 1 : Option Nat) = some 1 := by split <;> simp
      rw [round_go]
      simp only
      generalize (if i = 0 then none else some 1 : Option Nat) = os at hos ⊢
      simp only [go_sem, ↓reduceIte, c1, c2, c3, c4, c5, c6, hos, hx, hc, encP, hro1, hro]
      rw [← map_snoc]; rfl)
  clear hL
  simp only at k1 k2 k3 hE
  rw [loopW_go, k3]
  by_cases hi : i = l.length
  · have c1 : decide ((i : Int) < (l.length : Int)) = false := dec_f (by omega)
    rw [List.drop_eq_nil_of_le (by omega), restV_nil]
    simp only [go_sem, ↓reduceIte, c1, encQ]
  · obtain ⟨x, hx, hbad⟩ := hE.resolve_left hi
    have hil := (List.getElem?_eq_some_iff.1 hx).1
    have c1 : decide ((i : Int) < (l.length : Int)) = true := dec_t (by omega)
    have hc := ht x (List.mem_of_getElem? hx)
    unfold TermOK at hc
    rw [drop_get hx, restV_bad hbad]
    generalize valV s w vs env bnd x = q at hc hbad ⊢
    obtain ⟨v, e⟩ := q
    simp only at hbad
    have c2 : (e != 0) = true := by simpa using hbad
    simp only [go_sem, ↓reduceIte, c1, c2, hx, hc, encP, encQ, hro1, hro]
    try rfl
/-- the term of a binder -/
theorem bound_ok (s : Sg) (w : Wd) (vs : List Va) (env : List Bd) (bnd : List Int) (hb : bnd.length ≤ 100000) (nm : ByteArray) (nu : Int) (h0 : 0 ≤ nu) (h1 : nu < bnd.length) : TermOK s w vs env bnd (.mk 2 nm nu []) := by
  intro ro m hro
  have hro1 : ro ≤ m.length + 1 := by omega
  have hall := fun ro m hro => all_ev s w vs env bnd [] (by simp) ro m hro (fun x hx => by cases hx)
  simp only [List.map_nil] at hall
  have hv : valV s w vs env bnd (.mk 2 nm nu []) = (bnd.getD (bnd.length - 1 - nu.toNat) 0, 0) := by simp [valV, valsV, ownV]
  have hvs : valsV s w vs env bnd [] = ([], 0) := by simp [valsV]
  rw [hv]
  rw [hvs] at hall
  obtain ⟨x, hx⟩ : ∃ x, bnd[bnd.length - 1 - nu.toNat]? = some x := ⟨_, List.getElem?_eq_getElem (by omega)⟩
  have d4 : IntKind.i64.wrap ((bnd.length : Int) - 1) = (bnd.length : Int) - 1 := wrap64 (by omega) (by omega)
  have d5 : IntKind.i64.wrap ((bnd.length : Int) - 1 - nu) = ((bnd.length - 1 - nu.toNat : Nat) : Int) := (wrap64 (by omega) (by omega)).trans (by omega)
  have d6 : bnd.getD (bnd.length - 1 - nu.toNat) 0 = x := by rw [List.getD_eq_getElem?_getD, hx]; rfl
  have cz : ((0 : Int) != 0) = false := rfl
  rw [d6]
  refine evL_by (n := 104) (by kernel_rfl) rfl fn57 rfl rfl rfl rfl ?_
  have e1 : ((2 : Int) == 1) = false := rfl
  have e2 : ((2 : Int) == 2) = true := rfl
  simp only [go_sem, ↓reduceIte, hall, encQ, encP, hro, hro1, Tm.op, Tm.nm, Tm.nu, Tm.l, List.map_nil, d4, d5, hx, cz, e1, e2]
end Go.Eng
