-- own work: an evaluator of the program's code, and what it answers
import Derived.Test.YtdmoipccmbimhaaGreatDoorZ11
import Derived.Test.YtdmoipccmbimhaaGreatDoorNA
/- The value of any term in a world: the reference. -/
set_option maxRecDepth 100000
set_option linter.unusedVariables false
set_option linter.unusedSimpArgs false
namespace Go.Eng
open Go Go.Proofs
def encVal (x : Int × Int) : C := .agg [.v (.int .i64 x.1), .v (.int .i64 x.2)]
set_option maxHeartbeats 1000000 in
theorem rfits16_ev (n : Int) (ro : Nat) (m : Mem) (hro : ro ≤ m.length) : evL Tryz.prog AnZ ro 93 [.c (.v (.int .i64 (numS n).1)), .c (.v (.bool (numS n).2))] m = some (.c (encVal (fitsV n)), m) := by
  refine evL_by (n := 10) (by kernel_rfl) rfl fn93 rfl rfl rfl rfl ?_
  unfold numS fitsV
  by_cases h : -9223372036854775808 ≤ n ∧ n ≤ 9223372036854775807
  · rw [if_pos h, if_pos h]; simp only [go_sem, ↓reduceIte, encVal, hro]
  · rw [if_neg h, if_neg h]; simp only [go_sem, ↓reduceIte, encVal, hro]
set_option maxHeartbeats 1000000 in
theorem place_ev (s : Sg) (nm : ByteArray) (hl : s.funs.length ≤ maxLen) (ro : Nat) (m : Mem) :
    evL Tryz.prog AnZ ro 83 [.c (encS s), .c (.v (.string nm))] m = some (.c (.v (.int .i64 (if idx (hasF nm) s.funs < s.funs.length then (idx (hasF nm) s.funs : Int) else -1))), m) := by
  rw [maxLen_eq] at hl
  refine evL_by (n := 22) (by kernel_rfl) rfl fn83 rfl rfl rfl rfl ?_
  simp only [go_sem, ↓reduceIte]
  generalize hL : loopW _ _ = L
  have hle := idx_le (hasF nm) s.funs
  obtain ⟨i, h1, hE, rfl⟩ := loopW_at hL (fun i : Nat => [(5, .c (.v (.int .i64 i)))]) (fun _ => [] :: m) (fun i => i ≤ idx (hasF nm) s.funs) (fun i => i = idx (hasF nm) s.funs) (fun i => s.funs.length - i) 0 rfl rfl (by omega) (by
    rintro i h1 hE
    obtain ⟨x, hx⟩ : ∃ x, s.funs[i]? = some x := ⟨_, List.getElem?_eq_getElem (by omega)⟩
    have c1 : decide ((i : Int) < (s.funs.length : Int)) = true := dec_t (by omega)
    have c3 : IntKind.i64.wrap ((i : Int) + 1) = ((i + 1 : Nat) : Int) := wrap64 (by omega) (by omega)
    have c2 := idx_not (hasF nm) s.funs i x (by omega) hx
    unfold hasF at c2
    refine ⟨i + 1, by omega, by omega, ?_⟩
    rw [round_go]
    simp only [go_sem, ↓reduceIte, c1, c2, c3, hx])
  clear hL
  rw [loopW_go, ← hE]
  by_cases hi : i < s.funs.length
  · obtain ⟨x, hx⟩ : ∃ x, s.funs[i]? = some x := ⟨_, List.getElem?_eq_getElem hi⟩
    have c1 : decide ((i : Int) < (s.funs.length : Int)) = true := dec_t (by omega)
    have c2 := idx_is (hasF nm) s.funs x (by rw [← hE]; exact hx)
    unfold hasF at c2
    rw [if_pos hi]
    simp only [go_sem, ↓reduceIte, c1, c2, hx]
  · have c1 : decide ((i : Int) < (s.funs.length : Int)) = false := dec_f (by omega)
    rw [if_neg hi]
    simp only [go_sem, ↓reduceIte, c1]
set_option maxHeartbeats 4000000 in
theorem look_ev (s : Sg) (w : Wd) (h : RoomOK s w) (k : Nat) (f : Fu) (hf : s.funs[k]? = some f) (hw : wholeB f = false) (l : List Int) (hin : inR s w f.args l) (ro : Nat) (m : Mem) (hro : ro ≤ m.length) :
    evL Tryz.prog AnZ ro 84 [.c (encS s), .c (encW w), .c (.v (.int .i64 k)), .c (.sl (l.map cI))] m = some (.c (.v (.int .i64 ((w.tables.getD k []).getD (atV s w 0 f.args l).toNat 0))), m) := by
  have hro1 : ro ≤ m.length + 1 := by omega
  obtain ⟨h0, h1, h2⟩ := h.sized
  obtain ⟨hp, hsg, hbd⟩ := sizedE_ok h.hs h0
  have hn8 := (checkE_ok ((signE_ok hsg).2.2 _ f hf).1).2.1
  have hlen := inR_len hin
  have hsz := fun x ro m => rsize_ev s w x h.hs.sorts hp.len ro m
  obtain ⟨t, y, ht, a0, hy, _⟩ := table_at h hf hw hin
  refine evL_by (n := 44) (by kernel_rfl) rfl fn84 rfl rfl rfl rfl ?_
  simp only [go_sem, ↓reduceIte]
  generalize hL : loopW _ _ = L
  obtain ⟨⟨i, a⟩, ⟨k1, k2, k3, k4⟩, hE, rfl⟩ := loopW_at hL (fun (q : Nat × Int) => [(9, .c (.v (.int .i64 q.2))), (10, .c (.v (.int .i64 q.1)))]) (fun _ => [] :: m)
    (fun q => q.1 ≤ l.length ∧ 0 ≤ q.2 ∧ q.2 ≤ bdN q.1 ∧ atV s w 0 f.args l = atV s w q.2 (f.args.drop q.1) (l.drop q.1)) (fun q => q.1 = l.length) (fun q => l.length - q.1) (0, 0) rfl rfl ⟨by simp, by decide, by decide, by simp⟩ (by
    rintro ⟨i, a⟩ ⟨k1, k2, k3, k4⟩ hE
    dsimp only at k1 k2 k3 k4 hE
    obtain ⟨x, hx⟩ : ∃ x, f.args[i]? = some x := ⟨_, List.getElem?_eq_getElem (by omega)⟩
    obtain ⟨v, hv⟩ : ∃ x, l[i]? = some x := ⟨_, List.getElem?_eq_getElem (by omega)⟩
    have c1 : decide ((i : Int) < (l.length : Int)) = true := dec_t (by omega)
    have c3 : IntKind.i64.wrap ((i : Int) + 1) = ((i + 1 : Nat) : Int) := wrap64 (by omega) (by omega)
    obtain ⟨v0, v1⟩ := inR_get hin hx hv
    have hz := h.bd x
    have hb8 := bdN_le (k := i) (by omega)
    have e1 : 0 ≤ a * sizeI s.sorts w.sizes x := Int.mul_nonneg k2 hz.1
    have e2 : a * sizeI s.sorts w.sizes x ≤ a * 8 := Int.mul_le_mul_of_nonneg_left hz.2 k2
    have d1 : IntKind.i64.wrap (a * sizeI s.sorts w.sizes x) = a * sizeI s.sorts w.sizes x := wrap64 (by omega) (by omega)
    have d2 : IntKind.i64.wrap (a * sizeI s.sorts w.sizes x + v) = a * sizeI s.sorts w.sizes x + v := wrap64 (by omega) (by omega)
    refine ⟨(i + 1, a * sizeI s.sorts w.sizes x + v), ⟨by dsimp only; omega, by dsimp only; omega, ?_, ?_⟩, by dsimp only; omega, ?_⟩
    · dsimp only [bdN]; omega
    · dsimp only
      rw [k4, drop_get hx, drop_get hv, atV]
    rw [round_go]
    simp only [go_sem, ↓reduceIte, c1, c3, hf, hx, hv, hsz, d1, d2, hro, hro1])
  clear hL
  dsimp only at k1 k2 k3 k4 hE
  subst hE
  rw [List.drop_length, List.drop_eq_nil_of_le (by omega), atV_nil] at k4
  rw [k4] at a0 hy ⊢
  rw [loopW_go]
  have c1 : decide ((l.length : Int) < (l.length : Int)) = false := dec_f (by omega)
  have e1 : w.tables.getD k [] = t := by rw [List.getD_eq_getElem?_getD, ht]; rfl
  have e2 : t.getD a.toNat 0 = y := by rw [List.getD_eq_getElem?_getD, hy]; rfl
  rw [e1, e2]
  simp only [go_sem, ↓reduceIte, c1, ht, hy, a0, encL_def, hro, hro1]
set_option maxHeartbeats 4000000 in
theorem rvariable_ev (s : Sg) (w : Wd) (vs : List Va) (env : List Bd) (h : RoomOK s w) (hv : vs.length ≤ maxLen) (he : env.length ≤ maxLen) (nm so : ByteArray) (hso : sortOf vs nm = some so) (ro : Nat) (m : Mem) (hro : ro ≤ m.length) :
    evL Tryz.prog AnZ ro 92 [.c (encS s), .c (encW w), .c (.sl (vs.map encV)), .c (.sl (env.map encB)), .c (.v (.string nm))] m = some (.c (encVal (varV s w vs env nm)), m) := by
  have hro1 : ro ≤ m.length + 1 := by omega
  have hp := (sizedE_ok h.hs h.sized.1).1
  have hs := fun ro m => upZ (rsort_ev vs nm hv ro m)
  have hsz := fun x ro m => rsize_ev s w x h.hs.sorts hp.len ro m
  rw [hso] at hs
  rw [maxLen_eq] at he
  refine evL_by (n := 57) (by kernel_rfl) rfl fn92 rfl rfl rfl rfl ?_
  simp only [go_sem, ↓reduceIte, hs, encO, hro, hro1]
  generalize hL : loopW _ _ = L
  have hle := idx_le (isB nm) env
  obtain ⟨i, h1, hE, rfl⟩ := loopW_at hL (fun i : Nat => [(13, .c (.v (.int .i64 i)))]) (fun _ => [(10, [.c (.v (.int .i64 0)), .c (.v (.int .i64 0))])] :: m) (fun i => i ≤ idx (isB nm) env) (fun i => i = idx (isB nm) env) (fun i => env.length - i) 0 rfl rfl (by omega) (by
    rintro i h1 hE
    obtain ⟨x, hx⟩ : ∃ x, env[i]? = some x := ⟨_, List.getElem?_eq_getElem (by omega)⟩
    have c1 : decide ((i : Int) < (env.length : Int)) = true := dec_t (by omega)
    have c3 : IntKind.i64.wrap ((i : Int) + 1) = ((i + 1 : Nat) : Int) := wrap64 (by omega) (by omega)
    have c2 := idx_not (isB nm) env i x (by omega) hx
    unfold isB at c2
    refine ⟨i + 1, by omega, by omega, ?_⟩
    rw [round_go]
    simp only [go_sem, ↓reduceIte, c1, c2, c3, hx])
  clear hL
  unfold varV
  rw [hso, loopW_go, ← hE]
  by_cases hi : i < env.length
  · obtain ⟨b, hb⟩ : ∃ x, env[i]? = some x := ⟨_, List.getElem?_eq_getElem hi⟩
    have c1 : decide ((i : Int) < (env.length : Int)) = true := dec_t (by omega)
    have c2 := idx_is (isB nm) env b (by rw [← hE]; exact hb)
    unfold isB at c2
    rw [hb]
    simp only
    cases hint : beqS so sInt with
    | true =>
      rw [if_neg (show ¬ (true = false ∧ (b.val < 0 ∨ sizeI s.sorts w.sizes so ≤ b.val)) by simp)]
      simp only [go_sem, ↓reduceIte, c1, c2, hb, hint, encVal, hro, hro1]
    | false =>
      by_cases h0 : b.val < 0
      · have c0 : decide (b.val ≥ 0) = false := dec_f (by omega)
        rw [if_pos (show false = false ∧ (b.val < 0 ∨ sizeI s.sorts w.sizes so ≤ b.val) from ⟨rfl, .inl h0⟩)]
        simp only [go_sem, ↓reduceIte, c1, c2, hb, hint, c0, encVal, hro, hro1]
      · have c0 : decide (b.val ≥ 0) = true := dec_t (by omega)
        by_cases h3 : sizeI s.sorts w.sizes so ≤ b.val
        · have c3 : decide (b.val < sizeI s.sorts w.sizes so) = false := dec_f (by omega)
          rw [if_pos (show false = false ∧ (b.val < 0 ∨ sizeI s.sorts w.sizes so ≤ b.val) from ⟨rfl, .inr h3⟩)]
          simp only [go_sem, ↓reduceIte, c1, c2, hb, hint, c0, c3, hsz, encVal, hro, hro1]
        · have c3 : decide (b.val < sizeI s.sorts w.sizes so) = true := dec_t (by omega)
          rw [if_neg (show ¬ (false = false ∧ (b.val < 0 ∨ sizeI s.sorts w.sizes so ≤ b.val)) from fun hh => by rcases hh.2 with q | q; exact h0 q; exact h3 q)]
          simp only [go_sem, ↓reduceIte, c1, c2, hb, hint, c0, c3, hsz, encVal, hro, hro1]
  · have c1 : decide ((i : Int) < (env.length : Int)) = false := dec_f (by omega)
    rw [List.getElem?_eq_none (by omega)]
    simp only [go_sem, ↓reduceIte, c1, encVal, hro, hro1]
theorem valV_err {s : Sg} {w : Wd} {vs : List Va} {env : List Bd} {bnd : List Int} (t : Tm) (h : (valV s w vs env bnd t).2 ≠ 0) : (valV s w vs env bnd t).1 = 0 := by
  obtain ⟨op, nm, nu, l⟩ := t
  rw [valV] at h ⊢
  split
  · rfl
  · rename_i hc
    rw [if_neg hc] at h
    have hfit : ∀ n, (fitsV n).2 ≠ 0 → (fitsV n).1 = 0 := fun n => by
      unfold fitsV
      split
      · intro h; exact absurd rfl h
      · intro _; rfl
    unfold ownV at h ⊢
    split at h
    · rename_i o; rw [if_pos o]
      unfold varV at h ⊢
      split at h
      · split at h
        · rename_i hc; rw [if_pos hc]
        · exact absurd rfl h
      · rfl
    · rename_i o1; rw [if_neg o1]
      split at h
      · exact absurd rfl h
      · rename_i o2; rw [if_neg o2]
        split at h
        · rename_i o3; rw [if_pos o3]
          unfold appV at h ⊢
          split at h
          · rename_i hw; rw [if_pos hw]
          · exact absurd rfl h
        · rename_i o3; rw [if_neg o3]
          split at h
          · rename_i o; rw [if_pos o]; exact hfit _ h
          · rename_i o; rw [if_neg o]
            split at h
            · rename_i o; rw [if_pos o]; exact hfit _ h
            · rename_i o; rw [if_neg o]
              split at h
              · rename_i o; rw [if_pos o]; exact hfit _ h
              · rename_i o; rw [if_neg o]
                split at h
                · rename_i o; rw [if_pos o]; exact hfit _ h
                · exact absurd rfl h
/-- the reference tells a term's value -/
def RTermOK (s : Sg) (w : Wd) (vs : List Va) (env : List Bd) (bnd : List Int) (t : Tm) : Prop :=
  ∀ ro m, ro ≤ m.length → evL Tryz.prog AnZ ro 58 [.c (encS s), .c (encW w), .c (.sl (vs.map encV)), .c (.sl (env.map encB)), .c (.sl (bnd.map cI)), .c (encT t)] m = some (.c (encVal (valV s w vs env bnd t)), m)
def box0 : Box := [.c (.v (.int .i64 0)), .c (.v (.int .i64 0))]
attribute [go_sem] box0
set_option maxHeartbeats 16000000 in
theorem rterm_ev (s : Sg) (w : Wd) (vs : List Va) (env : List Bd) (h : RoomOK s w) (hN : NumOK w vs env) : ∀ (d : Nat) (t : Tm) (bs : List ByteArray) (bnd : List Int) (a : ByteArray), depT t ≤ d → okT t → tyT s vs bs t a → inR s w bs bnd → bs.length ≤ 50000 → RTermOK s w vs env bnd t
  | 0, t, _, _, _, hd, _, _, _, _ => by cases t; simp [depT] at hd
  | d + 1, .mk op nm nu l, bs, bnd, a, hd, hok, hty, hin, hbl => by
    intro ro m hro
    have hro1 : ro ≤ m.length + 1 := by omega
    have hlen := inR_len hin
    have hbok := inR_ok h hin
    have hargs : ∀ x ∈ l, okT x := fun x hx => hok.arg (t := .mk op nm nu l) hx
    have hsub : (∃ has, tysT s vs bs l has) → ∀ x ∈ l, RTermOK s w vs env bnd x := fun ⟨has, hh⟩ x hx => by
      obtain ⟨b, hb⟩ := tysT_mem hh x hx
      have := depT_arg (op := op) (nm := nm) (nu := nu) hx
      exact rterm_ev s w vs env h hN d x bs bnd b (by omega) (hargs x hx) hb hin hbl
    have hnu : okI nu := hok.nu (t := .mk op nm nu l)
    rw [tyT] at hty
    have hnil : (∃ has, tysT s vs bs ([] : List Tm) has) := ⟨[], by simp [tysT]⟩
    have hvo := valsV_ok h hN hbok l hargs
    have hlv := fun h0 => valsV_len (s := s) (w := w) (vs := vs) (env := env) (bnd := bnd) (l := l) h0
    have hex : (∃ has, tysT s vs bs l has) ∧ l.length ≤ 100000 := by
      by_cases o1 : op = 1
      · rw [if_pos o1] at hty; obtain ⟨rfl, _⟩ := hty; exact ⟨hnil, by simp⟩
      · rw [if_neg o1] at hty
        by_cases o2 : op = 2
        · rw [if_pos o2] at hty; obtain ⟨rfl, _⟩ := hty; exact ⟨hnil, by simp⟩
        rw [if_neg o2] at hty
        by_cases o3 : op = 3
        · rw [if_pos o3] at hty
          obtain ⟨f, hf, _, _, hh⟩ := hty
          have h8 := (checkE_ok ((signE_ok (sizedE_ok h.hs h.sized.1).2.1).2.2 _ f (findF_get hf)).1).2.1
          exact ⟨⟨_, hh⟩, by rw [tysT_len hh]; omega⟩
        · rw [if_neg o3] at hty
          by_cases o4 : op = 4
          · rw [if_pos o4] at hty; obtain ⟨rfl, _⟩ := hty; exact ⟨hnil, by simp⟩
          · rw [if_neg o4] at hty
            by_cases o5 : op = 5 ∨ op = 6
            · rw [if_pos o5] at hty; exact ⟨⟨_, hty.2⟩, by rw [tysT_len hty.2]; decide⟩
            · rw [if_neg o5] at hty; exact ⟨⟨_, hty.2.2⟩, by rw [tysT_len hty.2.2]; decide⟩
    have ht := hsub hex.1
    have hl := hex.2
    rw [valV]
    refine evL_by (n := 133) (by kernel_rfl) rfl fn58 rfl rfl rfl rfl ?_
    simp only [go_sem, ↓reduceIte, Tm.op, Tm.nm, Tm.nu, Tm.l, hro, hro1]
    generalize hL : loopW _ _ = L
    obtain ⟨⟨i, out⟩, ⟨k1, k2, k3⟩, hE, rfl⟩ := loopW_at hL (fun (q : Nat × List Int) => [(13, .tip (if q.1 = 0 then none else some 1) (q.2.map cI)), (14, .c (.v (.int .i64 q.1)))]) (fun _ => [(12, box0)] :: m)
      (fun q => q.1 ≤ l.length ∧ q.2.length = q.1 ∧ valsV s w vs env bnd l = restV s w vs env bnd q.2 (l.drop q.1))
      (fun q => q.1 = l.length ∨ ∃ x, l[q.1]? = some x ∧ (valV s w vs env bnd x).2 ≠ 0) (fun q => l.length - q.1) (0, []) rfl rfl ⟨by simp, rfl, by simp [restV_0]⟩ (by
      rintro ⟨i, out⟩ ⟨k1, k2, k3⟩ hE
      simp only [not_or, not_exists, not_and] at hE k1 k2 k3
      obtain ⟨k4, k5⟩ := hE
      obtain ⟨x, hx⟩ : ∃ x, l[i]? = some x := ⟨_, List.getElem?_eq_getElem (by omega)⟩
      have c1 : decide ((i : Int) < (l.length : Int)) = true := dec_t (by omega)
      have c3 : IntKind.i64.wrap ((i : Int) + 1) = ((i + 1 : Nat) : Int) := wrap64 (by omega) (by omega)
      have hc := ht x (List.mem_of_getElem? hx)
      unfold RTermOK at hc
      have k6 := k5 x hx
      have hrest := restV_good (out := out) (r := l.drop (i + 1)) k6
      generalize valV s w vs env bnd x = q at hc k6 hrest
      obtain ⟨v, e⟩ := q
      simp only at k6 hrest
      have c2 : (e != 0) = false := by simpa using k6
      have c4 : (i + 1 = 0) = False := by simp
      have c5 : (out.length + 1) * 8 ≤ 140737488355328 := by omega
      have c6 : out.length + 1 ≤ 9223372036854775807 := by omega
      refine ⟨(i + 1, out ++ [v]), ⟨by simp only; omega, by simp [k2], ?_⟩, by simp only; omega, ?_⟩
      · rw [k3, drop_get hx, hrest]
      · have hos : (if i = 0 then none else some 1 : Option Nat) = none ∨ (if i = 0 then none else some 1 : Option Nat) = some 1 := by split <;> simp
        rw [round_go]
        simp only
        generalize (if i = 0 then none else some 1 : Option Nat) = os at hos ⊢
        simp only [go_sem, ↓reduceIte, c1, c2, c3, c4, c5, c6, hos, hx, hc, encVal, hro1, hro]
        rw [← map_snoc]; rfl)
    clear hL
    simp only at k1 k2 k3 hE
    rw [loopW_go, k3]
    by_cases hi : ¬ i = l.length
    · obtain ⟨x, hx, hbad⟩ := hE.resolve_left hi
      have hil := (List.getElem?_eq_some_iff.1 hx).1
      have c1 : decide ((i : Int) < (l.length : Int)) = true := dec_t (by omega)
      have hc := ht x (List.mem_of_getElem? hx)
      unfold RTermOK at hc
      have hv0 := valV_err x hbad
      rw [drop_get hx, restV_bad hbad, if_pos hbad]
      generalize valV s w vs env bnd x = q at hc hbad hv0 ⊢
      obtain ⟨v, e⟩ := q
      simp only at hbad hv0
      subst hv0
      have c2 : (e != 0) = true := by simpa using hbad
      simp only [go_sem, ↓reduceIte, c1, c2, hx, hc, encVal, hro1, hro]
    have hi := Decidable.not_not.1 hi
    have c1 : decide ((i : Int) < (l.length : Int)) = false := dec_f (by omega)
    rw [List.drop_eq_nil_of_le (show l.length ≤ i by omega), restV_nil] at k3 ⊢
    rw [k3] at hvo hlv
    have hvin := fun (r : List ByteArray) (hr : tysT s vs bs l r) (hni : ∀ x ∈ r, beqS x sInt = false) => vals_in h vs env hin l r hr (by rw [k3]) hni
    rw [k3] at hvin
    have hvl := hlv rfl
    simp only at hvo hvl hvin
    rw [if_neg (show ¬ ((out, (0 : Int)).2 ≠ 0) by simp)]
    dsimp only
    clear hlv hE k3
    generalize (if i = 0 then none else some 1 : Option Nat) = os
    unfold ownV
    by_cases o1 : op = 1
    · rw [if_pos o1] at hty ⊢
      have d1 : (op == 1) = true := beq_t o1
      have hva := fun ro m hro => rvariable_ev s w vs env h hN.hvs hN.henv nm a hty.2 ro m hro
      generalize varV s w vs env nm = r at hva ⊢
      obtain ⟨rv, re⟩ := r
      simp only [go_sem, ↓reduceIte, c1, d1, hva, encVal, hro1, hro]
    have d1 : (op == 1) = false := beq_f o1
    rw [if_neg o1] at hty ⊢
    by_cases o2 : op = 2
    · rw [if_pos o2] at hty ⊢
      obtain ⟨_, h0, h1, _⟩ := hty
      have d2 : (op == 2) = true := beq_t o2
      obtain ⟨x, hx⟩ : ∃ x, bnd[bnd.length - 1 - nu.toNat]? = some x := ⟨_, List.getElem?_eq_getElem (by omega)⟩
      have d4 : IntKind.i64.wrap ((bnd.length : Int) - 1) = (bnd.length : Int) - 1 := wrap64 (by omega) (by omega)
      have d5 : IntKind.i64.wrap ((bnd.length : Int) - 1 - nu) = ((bnd.length - 1 - nu.toNat : Nat) : Int) := (wrap64 (by omega) (by omega)).trans (by omega)
      have d6 : bnd.getD (bnd.length - 1 - nu.toNat) 0 = x := by rw [List.getD_eq_getElem?_getD, hx]; rfl
      rw [d6]
      simp only [go_sem, ↓reduceIte, c1, d1, d2, d4, d5, hx, encVal, hro1, hro]
    have d2 : (op == 2) = false := beq_f o2
    rw [if_neg o2] at hty ⊢
    by_cases o3 : op = 3
    · rw [if_pos o3] at hty ⊢
      obtain ⟨f, hf, _, _, hh⟩ := hty
      have d4 : (op == 4) = false := beq_f (by omega)
      have d5 : (op == 5) = false := beq_f (by omega)
      have d6 : (op == 6) = false := beq_f (by omega)
      have d7 : (op == 7) = false := beq_f (by omega)
      have d8 : (op == 8) = false := beq_f (by omega)
      have hfg := findF_get hf
      have hlt := (List.getElem?_eq_some_iff.1 hfg).1
      have hpl := fun ro m => place_ev s nm h.hs.funs ro m
      rw [if_pos hlt] at hpl
      have hri := fun ro m => rints_ev f (h.hs.fun_ f (List.mem_of_getElem? hfg)).args ro m
      unfold appV
      rw [hf]
      simp only
      cases hw : wholeB f with
      | true =>
        rw [hw] at hri
        rw [if_pos rfl]
        generalize idx (hasF nm) s.funs = k at hfg hpl
        simp only [go_sem, ↓reduceIte, c1, d1, d2, d4, d5, d6, d7, d8, hpl, hfg, hri, encVal, hro1, hro]
      | false =>
        rw [hw] at hri
        have hlk := fun ro m hro => look_ev s w h (idx (hasF nm) s.funs) f hfg hw out (hvin f.args hh (args_not_int hw)) ro m hro
        rw [if_neg (show ¬ (false = true) by simp)]
        generalize (w.tables.getD (idx (hasF nm) s.funs) []).getD (atV s w 0 f.args out).toNat 0 = z at hlk ⊢
        generalize idx (hasF nm) s.funs = k at hfg hpl hlk
        simp only [go_sem, ↓reduceIte, c1, d1, d2, d4, d5, d6, d7, d8, hpl, hfg, hri, hlk, encVal, hro1, hro]
    rw [if_neg o3] at hty ⊢
    by_cases o4 : op = 4
    · have d4 : (op == 4) = true := beq_t o4
      rw [if_neg (show ¬ op = 5 by omega), if_neg (show ¬ op = 6 by omega), if_neg (show ¬ op = 7 by omega), if_neg (show ¬ op = 8 by omega)]
      simp only [go_sem, ↓reduceIte, c1, d1, d2, d4, encVal, hro1, hro]
    have d4 : (op == 4) = false := beq_f o4
    rw [if_neg o4] at hty
    by_cases o5 : op = 5
    · rw [if_pos (show op = 5 ∨ op = 6 from .inl o5)] at hty
      rw [if_pos o5]
      have d5 : (op == 5) = true := beq_t o5
      obtain ⟨x, y, rfl⟩ := len_two (hvl.trans (tysT_len hty.2))
      have ha := fun ro m hro => radd_ev x y (hvo x (by simp)) (hvo y (by simp)) ro m hro
      have hn := fun ro m hro => rfits16_ev (x + y) ro m hro
      simp only [List.getD_cons_zero, List.getD_cons_succ]
      generalize numS (x + y) = r at ha hn
      generalize fitsV (x + y) = r2 at hn ⊢
      obtain ⟨rv, rb⟩ := r
      obtain ⟨qv, qe⟩ := r2
      simp only [go_sem, ↓reduceIte, c1, d1, d2, d4, d5, ha, hn, encVal, encNB, hro1, hro, List.map_cons, List.map_nil, Int.reduceLE]
    have d5 : (op == 5) = false := beq_f o5
    rw [if_neg o5]
    by_cases o6 : op = 6
    · rw [if_pos (show op = 5 ∨ op = 6 from .inr o6)] at hty
      rw [if_pos o6]
      have d6 : (op == 6) = true := beq_t o6
      obtain ⟨x, y, rfl⟩ := len_two (hvl.trans (tysT_len hty.2))
      have ha := fun ro m hro => rsub_ev x y (hvo x (by simp)) (hvo y (by simp)) ro m hro
      have hn := fun ro m hro => rfits16_ev (x - y) ro m hro
      simp only [List.getD_cons_zero, List.getD_cons_succ]
      generalize numS (x - y) = r at ha hn
      generalize fitsV (x - y) = r2 at hn ⊢
      obtain ⟨rv, rb⟩ := r
      obtain ⟨qv, qe⟩ := r2
      simp only [go_sem, ↓reduceIte, c1, d1, d2, d4, d5, d6, ha, hn, encVal, encNB, hro1, hro, List.map_cons, List.map_nil, Int.reduceLE]
    have d6 : (op == 6) = false := beq_f o6
    rw [if_neg o6]
    rw [if_neg (show ¬ (op = 5 ∨ op = 6) by omega)] at hty
    obtain ⟨x, rfl⟩ := len_one (hvl.trans (tysT_len hty.2.2))
    by_cases o7 : op = 7
    · rw [if_pos o7]
      have d7 : (op == 7) = true := beq_t o7
      have ha := fun ro m hro => rneg_ev x (hvo x (by simp)) ro m hro
      have hn := fun ro m hro => rfits16_ev (-x) ro m hro
      simp only [List.getD_cons_zero]
      generalize numS (-x) = r at ha hn
      generalize fitsV (-x) = r2 at hn ⊢
      obtain ⟨rv, rb⟩ := r
      obtain ⟨qv, qe⟩ := r2
      simp only [go_sem, ↓reduceIte, c1, d1, d2, d4, d5, d6, d7, ha, hn, encVal, encNB, hro1, hro, List.map_cons, List.map_nil, Int.reduceLE]
    · have o8 : op = 8 := by omega
      rw [if_neg o7, if_pos o8]
      have d7 : (op == 7) = false := beq_f o7
      have d8 : (op == 8) = true := beq_t o8
      have ha := fun ro m hro => rmul_ev nu x hnu (hvo x (by simp)) ro m hro
      have hn := fun ro m hro => rfits16_ev (nu * x) ro m hro
      simp only [List.getD_cons_zero]
      generalize numS (nu * x) = r at ha hn
      generalize fitsV (nu * x) = r2 at hn ⊢
      obtain ⟨rv, rb⟩ := r
      obtain ⟨qv, qe⟩ := r2
      simp only [go_sem, ↓reduceIte, c1, d1, d2, d4, d5, d6, d7, d8, ha, hn, encVal, encNB, hro1, hro, List.map_cons, List.map_nil, Int.reduceLE]
end Go.Eng
