-- own work: an evaluator of the program's code, and what it answers
import Derived.Test.YtdmoipccmbimhaaGreatDoorZC
import Derived.Test.YtdmoipccmbimhaaGreatDoorNA
/- The value of any term in a world: the program. -/
set_option maxRecDepth 100000
set_option linter.unusedVariables false
set_option linter.unusedSimpArgs false
namespace Go.Eng
open Go Go.Proofs
set_option maxHeartbeats 1000000 in
theorem va1_ev (v : Va) (nm : ByteArray) (ro : Nat) (m : Mem) : evL Tryz.prog AnZ ro 131 [.c (encV v), .c (.fp [.v (.string nm)])] m = some (.c (.v (.bool (hasName nm v))), m) := by
  refine evL_by (n := 8) (by kernel_rfl) rfl fn131 rfl rfl rfl rfl ?_
  unfold hasName
  simp only [go_sem, ↓reduceIte]
theorem vb_ev (b : Bd) (nm : ByteArray) (ro : Nat) (m : Mem) : evL Tryz.prog AnZ ro 133 [.c (encB b), .c (.fp [.v (.string nm)])] m = some (.c (.v (.bool (isB nm b))), m) :=
  evL_ext (cs := [encB b, .fp [.v (.string nm)]]) (q := bindQ) (by kernel_rfl) rfl rfl rfl
set_option maxHeartbeats 1000000 in
theorem vaindex_ev (l : List Va) (nm : ByteArray) (hl : l.length ≤ maxLen) (ro : Nat) (m : Mem) :
    evL Tryz.prog AnZ ro 119 [.c (.sl (l.map encV)), .c (.fn (.func 131) [.fp [.v (.string nm)]])] m = some (.c (.v (.int .i64 (if idx (hasName nm) l < l.length then (idx (hasName nm) l : Int) else -1))), m) := by
  rw [maxLen_eq] at hl
  refine evL_by (n := 19) (by kernel_rfl) rfl fn119 rfl rfl rfl rfl ?_
  simp only [go_sem, ↓reduceIte]
  generalize hL : loopW _ _ = L
  have hle := idx_le (hasName nm) l
  obtain ⟨i, h1, hE, rfl⟩ := loopW_at hL (fun i : Nat => [(8, .c (.v (.int .i64 i)))]) (fun _ => [] :: m) (fun i => i ≤ idx (hasName nm) l) (fun i => i = idx (hasName nm) l) (fun i => l.length - i) 0 rfl rfl (by omega) (by
    rintro i h1 hE
    obtain ⟨x, hx⟩ : ∃ x, l[i]? = some x := ⟨_, List.getElem?_eq_getElem (by omega)⟩
    have c1 : decide ((i : Int) < (l.length : Int)) = true := dec_t (by omega)
    have c3 : IntKind.i64.wrap ((i : Int) + 1) = ((i + 1 : Nat) : Int) := wrap64 (by omega) (by omega)
    have c2 := idx_not (hasName nm) l i x (by omega) hx
    have e := fun ro m => va1_ev x nm ro m
    rw [c2] at e
    refine ⟨i + 1, by omega, by omega, ?_⟩
    rw [round_go]
    simp only [go_sem, ↓reduceIte, c1, c3, hx, e])
  clear hL
  subst hE
  rw [loopW_go]
  by_cases hi : idx (hasName nm) l < l.length
  · obtain ⟨x, hx⟩ : ∃ x, l[idx (hasName nm) l]? = some x := ⟨_, List.getElem?_eq_getElem hi⟩
    have c1 : decide ((idx (hasName nm) l : Int) < (l.length : Int)) = true := dec_t (by omega)
    have c2 := idx_is (hasName nm) l x hx
    have e := fun ro m => va1_ev x nm ro m
    rw [c2] at e
    simp only [go_sem, ↓reduceIte, c1, hx, e, if_pos hi]
  · have c1 : decide ((idx (hasName nm) l : Int) < (l.length : Int)) = false := dec_f (by omega)
    simp only [go_sem, ↓reduceIte, c1, if_neg hi]
set_option maxHeartbeats 1000000 in
theorem vbindex_ev (l : List Bd) (nm : ByteArray) (hl : l.length ≤ maxLen) (ro : Nat) (m : Mem) :
    evL Tryz.prog AnZ ro 132 [.c (.sl (l.map encB)), .c (.fn (.func 133) [.fp [.v (.string nm)]])] m = some (.c (.v (.int .i64 (if idx (isB nm) l < l.length then (idx (isB nm) l : Int) else -1))), m) := by
  rw [maxLen_eq] at hl
  refine evL_by (n := 19) (by kernel_rfl) rfl fn132 rfl rfl rfl rfl ?_
  simp only [go_sem, ↓reduceIte]
  generalize hL : loopW _ _ = L
  have hle := idx_le (isB nm) l
  obtain ⟨i, h1, hE, rfl⟩ := loopW_at hL (fun i : Nat => [(8, .c (.v (.int .i64 i)))]) (fun _ => [] :: m) (fun i => i ≤ idx (isB nm) l) (fun i => i = idx (isB nm) l) (fun i => l.length - i) 0 rfl rfl (by omega) (by
    rintro i h1 hE
    obtain ⟨x, hx⟩ : ∃ x, l[i]? = some x := ⟨_, List.getElem?_eq_getElem (by omega)⟩
    have c1 : decide ((i : Int) < (l.length : Int)) = true := dec_t (by omega)
    have c3 : IntKind.i64.wrap ((i : Int) + 1) = ((i + 1 : Nat) : Int) := wrap64 (by omega) (by omega)
    have c2 := idx_not (isB nm) l i x (by omega) hx
    have e := fun ro m => vb_ev x nm ro m
    rw [c2] at e
    refine ⟨i + 1, by omega, by omega, ?_⟩
    rw [round_go]
    simp only [go_sem, ↓reduceIte, c1, c3, hx, e])
  clear hL
  subst hE
  rw [loopW_go]
  by_cases hi : idx (isB nm) l < l.length
  · obtain ⟨x, hx⟩ : ∃ x, l[idx (isB nm) l]? = some x := ⟨_, List.getElem?_eq_getElem hi⟩
    have c1 : decide ((idx (isB nm) l : Int) < (l.length : Int)) = true := dec_t (by omega)
    have c2 := idx_is (isB nm) l x hx
    have e := fun ro m => vb_ev x nm ro m
    rw [c2] at e
    simp only [go_sem, ↓reduceIte, c1, hx, e, if_pos hi]
  · have c1 : decide ((idx (isB nm) l : Int) < (l.length : Int)) = false := dec_f (by omega)
    simp only [go_sem, ↓reduceIte, c1, if_neg hi]
set_option maxHeartbeats 4000000 in
theorem variable_ev (s : Sg) (w : Wd) (vs : List Va) (env : List Bd) (bnd : List Int) (h : RoomOK s w) (hv : vs.length ≤ maxLen) (he : env.length ≤ maxLen) (nm : ByteArray) (ro : Nat) (m : Mem) (hro : ro ≤ m.length) :
    evL Tryz.prog AnZ ro 86 [.c (encM s w vs env bnd), .c (.v (.string nm))] m = some (.tup (encP (varV s w vs env nm)), m) := by
  have hro1 : ro ≤ m.length + 1 := by omega
  have hp := (sizedE_ok h.hs h.sized.1).1
  have h1 := fun ro m => vaindex_ev vs nm hv ro m
  have h2 := fun ro m => vbindex_ev env nm he ro m
  refine evL_by (n := 51) (by kernel_rfl) rfl fn86 rfl rfl rfl rfl ?_
  unfold varV sortOf
  generalize idx (hasName nm) vs = i at h1 ⊢
  generalize idx (isB nm) env = k at h2 ⊢
  have cm : decide ((-1 : Int) < 0) = true := rfl
  by_cases hi : i < vs.length
  · rw [if_pos hi] at h1
    obtain ⟨v, hx⟩ : ∃ x, vs[i]? = some x := ⟨_, List.getElem?_eq_getElem hi⟩
    have ci : decide ((i : Int) < 0) = false := dec_f (by omega)
    by_cases hk : k < env.length
    · rw [if_pos hk] at h2
      obtain ⟨b, hb⟩ : ∃ x, env[k]? = some x := ⟨_, List.getElem?_eq_getElem hk⟩
      have ck : decide ((k : Int) < 0) = false := dec_f (by omega)
      rw [hx, hb]
      simp only [Option.map_some]
      cases hint : beqS v.so sInt with
      | true =>
        rw [if_neg (by simp)]
        simp only [go_sem, ↓reduceIte, h1, h2, ci, ck, hx, hb, hint, encP, hro, hro1]
      | false =>
        by_cases h0 : b.val < 0
        · have c0 : decide (b.val < 0) = true := dec_t h0
          rw [if_pos ⟨rfl, .inl h0⟩]
          simp only [go_sem, ↓reduceIte, h1, h2, ci, ck, hx, hb, hint, c0, encP, hro, hro1]
        · have c0 : decide (b.val < 0) = false := dec_f h0
          rcases find_sizes s.sorts w.sizes hp.len v.so with hf | ⟨hf, hz⟩
          · by_cases hs : sizeI s.sorts w.sizes v.so ≤ b.val
            · have c3 : decide (b.val ≥ sizeI s.sorts w.sizes v.so) = true := dec_t hs
              rw [if_pos ⟨rfl, .inr hs⟩]
              simp only [go_sem, ↓reduceIte, h1, h2, ci, ck, hx, hb, hint, c0, hf, c3, encP, hro, hro1]
            · have c3 : decide (b.val ≥ sizeI s.sorts w.sizes v.so) = false := dec_f hs
              rw [if_neg (by rintro ⟨_, h | h⟩; exact h0 h; exact hs h)]
              simp only [go_sem, ↓reduceIte, h1, h2, ci, ck, hx, hb, hint, c0, hf, c3, encP, hro, hro1]
          · have c3 : decide (b.val ≥ 0) = true := dec_t (by omega)
            rw [if_pos ⟨rfl, .inr (by omega)⟩]
            simp only [go_sem, ↓reduceIte, h1, h2, ci, ck, hx, hb, hint, c0, hf, c3, encP, hro, hro1]
    · rw [if_neg hk] at h2
      rw [hx, List.getElem?_eq_none (show env.length ≤ k by omega)]
      simp only [go_sem, ↓reduceIte, h1, h2, ci, cm, encP, hro, hro1, Option.map_some]
  · rw [if_neg hi] at h1
    rw [List.getElem?_eq_none (show vs.length ≤ i by omega)]
    simp only [go_sem, ↓reduceIte, h1, h2, cm, encP, hro, hro1, Option.map_none]
theorem val_ok {s : Sg} {w : Wd} {vs : List Va} {env : List Bd} {bnd : List Int} (h : RoomOK s w) (henv : ∀ b ∈ env, okI b.val) (hbnd : ∀ x ∈ bnd, okI x) (hsz : ∀ t ∈ w.tables, ∀ x ∈ t, okI x) (op : Int) (nm : ByteArray) (nu : Int) (hnu : okI nu) (l : List Int) : okI (ownV s w vs env bnd op nm nu l).1 := by
  have o0 : okI 0 := ⟨by decide, by decide⟩
  have hget : ∀ (l : List Int) (i : Nat), (∀ x ∈ l, okI x) → okI (l.getD i 0) := fun l i hl => by
    rw [List.getD_eq_getElem?_getD]
    cases hx : l[i]? with
    | none => exact o0
    | some x => exact hl x (List.mem_of_getElem? hx)
  have hfit : ∀ n, okI (fitsV n).1 := fun n => by
    unfold fitsV
    split
    · rename_i hc; exact hc
    · exact o0
  unfold ownV
  split
  · unfold varV
    split
    · rename_i b _ hb
      split
      · exact o0
      · exact henv _ (List.mem_of_getElem? hb)
    · exact o0
  · split
    · exact hget _ _ hbnd
    · split
      · unfold appV
        split
        · exact o0
        · refine hget _ _ ?_
          rw [List.getD_eq_getElem?_getD]
          cases ht : w.tables[idx (hasF nm) s.funs]? with
          | none => simp
          | some t => exact hsz t (List.mem_of_getElem? ht)
      · split
        · exact hfit _
        · split
          · exact hfit _
          · split
            · exact hfit _
            · split
              · exact hfit _
              · exact hnu
/-- what is asked besides: numbers that fit -/
structure NumOK (w : Wd) (vs : List Va) (env : List Bd) : Prop where
  hvs : vs.length ≤ maxLen
  henv : env.length ≤ maxLen
  hval : ∀ b ∈ env, okI b.val
  htab : ∀ t ∈ w.tables, ∀ x ∈ t, okI x
theorem okT.nu {t : Tm} (h : okT t) : okI t.nu := by
  cases h with
  | mk _ _ _ _ hnu _ => exact okI_wf hnu
theorem inR_ok {s : Sg} {w : Wd} (h : RoomOK s w) {bs : List ByteArray} {bnd : List Int} (hin : inR s w bs bnd) : ∀ x ∈ bnd, okI x := by
  intro x hx
  obtain ⟨i, hi⟩ := List.getElem?_of_mem hx
  have hl := inR_len hin
  have hlt := (List.getElem?_eq_some_iff.1 hi).1
  have := inR_get hin (List.getElem?_eq_getElem (show i < bs.length by omega)) hi
  have hb := h.bd (bs[i]'(by omega))
  unfold okI
  omega
theorem valV_ok {s : Sg} {w : Wd} {vs : List Va} {env : List Bd} {bnd : List Int} (h : RoomOK s w) (hN : NumOK w vs env) (hbnd : ∀ x ∈ bnd, okI x) (t : Tm) (ht : okT t) : okI (valV s w vs env bnd t).1 := by
  obtain ⟨op, nm, nu, l⟩ := t
  rw [valV]
  split
  · exact (show okI 0 from ⟨by decide, by decide⟩)
  · exact val_ok h hN.hval hbnd hN.htab op nm nu ht.nu _
theorem valsV_ok {s : Sg} {w : Wd} {vs : List Va} {env : List Bd} {bnd : List Int} (h : RoomOK s w) (hN : NumOK w vs env) (hbnd : ∀ x ∈ bnd, okI x) : ∀ (l : List Tm), (∀ x ∈ l, okT x) → ∀ v ∈ (valsV s w vs env bnd l).1, okI v
  | [], _, v, hv => by simp [valsV] at hv
  | x :: r, hl, v, hv => by
    rw [valsV] at hv
    split at hv
    · cases hv
    · split at hv
      · cases hv
      · rcases List.mem_cons.1 hv with rfl | hv
        · exact valV_ok h hN hbnd x (hl x (by simp))
        · exact valsV_ok h hN hbnd r (fun y hy => hl y (by simp [hy])) v hv
theorem depT_arg {op : Int} {nm : ByteArray} {nu : Int} {l : List Tm} {x : Tm} (hx : x ∈ l) : depT x < depT (.mk op nm nu l) := by
  rw [depT]
  have := depTs_le hx
  omega
set_option maxHeartbeats 16000000 in
theorem term_ev (s : Sg) (w : Wd) (vs : List Va) (env : List Bd) (h : RoomOK s w) (hN : NumOK w vs env) : ∀ (d : Nat) (t : Tm) (bs : List ByteArray) (bnd : List Int) (a : ByteArray), depT t ≤ d → okT t → tyT s vs bs t a → inR s w bs bnd → bs.length ≤ 50000 → TermOK s w vs env bnd t
  | 0, t, _, _, _, hd, _, _, _, _ => by cases t; simp [depT] at hd
  | d + 1, .mk op nm nu l, bs, bnd, a, hd, hok, hty, hin, hbl => by
    intro ro m hro
    have hro1 : ro ≤ m.length + 1 := by omega
    have hlen := inR_len hin
    have hbok := inR_ok h hin
    have hargs : ∀ x ∈ l, okT x := fun x hx => hok.arg (t := .mk op nm nu l) hx
    have hsub : (∃ has, tysT s vs bs l has) → ∀ x ∈ l, TermOK s w vs env bnd x := fun ⟨has, hh⟩ x hx => by
      obtain ⟨b, hb⟩ := tysT_mem hh x hx
      have := depT_arg (op := op) (nm := nm) (nu := nu) hx
      exact term_ev s w vs env h hN d x bs bnd b (by omega) (hargs x hx) hb hin hbl
    have hnu : okI nu := hok.nu (t := .mk op nm nu l)
    rw [tyT] at hty
    have hnil : (∃ has, tysT s vs bs ([] : List Tm) has) := ⟨[], by simp [tysT]⟩
    have hvo := valsV_ok h hN hbok l hargs
    have hlv := fun h0 => valsV_len (s := s) (w := w) (vs := vs) (env := env) (bnd := bnd) (l := l) h0
    by_cases o2 : op = 2
    · subst o2
      rw [if_neg (by decide), if_pos rfl] at hty
      obtain ⟨rfl, h0, h1, _⟩ := hty
      exact bound_ok s w vs env bnd (by omega) nm nu h0 (by omega) ro m hro
    rw [valV]
    refine evL_by (n := 104) (by kernel_rfl) rfl fn57 rfl rfl rfl rfl ?_
    have d2 : (op == 2) = false := beq_f o2
    have hex : (∃ has, tysT s vs bs l has) ∧ l.length ≤ 100000 := by
      by_cases o1 : op = 1
      · rw [if_pos o1] at hty; obtain ⟨rfl, _⟩ := hty; exact ⟨hnil, by simp⟩
      · rw [if_neg o1, if_neg o2] at hty
        by_cases o3 : op = 3
        · rw [if_pos o3] at hty
          obtain ⟨f, hf, _, _, hh⟩ := hty
          have h8 := (checkE_ok ((signE_ok (sizedE_ok h.hs h.sized.1).2.1).2.2 _ f (findF_get hf)).1).2.1
          exact ⟨⟨_, hh⟩, by rw [tysT_len hh]; omega⟩
        · rw [if_neg o3] at hty
          by_cases o4 : op = 4
          · rw [if_pos o4] at hty; obtain ⟨rfl, _⟩ := hty; exact ⟨hnil, by simp⟩
          · rw [if_neg o4] at hty
            by_cases o5 : op = 5 ∨ op = 6
            · rw [if_pos o5] at hty; exact ⟨⟨_, hty.2⟩, by rw [tysT_len hty.2]; decide⟩
            · rw [if_neg o5] at hty; exact ⟨⟨_, hty.2.2⟩, by rw [tysT_len hty.2.2]; decide⟩
    have hall := fun ro m hro => all_ev s w vs env bnd l hex.2 ro m hro (hsub hex.1)
    by_cases he : (valsV s w vs env bnd l).2 ≠ 0
    · rw [if_pos he]
      generalize valsV s w vs env bnd l = q at hall he ⊢
      obtain ⟨vl, e⟩ := q
      simp only at he
      have c2 : (e != 0) = true := by simpa using he
      simp only [go_sem, ↓reduceIte, c2, hall, encQ, encP, Tm.op, Tm.nm, Tm.nu, Tm.l, hro1, hro]
    rw [if_neg he]
    have hvl := hlv (by simpa using he)
    have hvin := fun (r : List ByteArray) (hr : tysT s vs bs l r) (hni : ∀ x ∈ r, beqS x sInt = false) => vals_in h vs env hin l r hr (by simpa using he) hni
    generalize valsV s w vs env bnd l = q at hall he hvl hvin hvo ⊢
    obtain ⟨vl, e⟩ := q
    simp only at he hvl hvin hvo
    have he0 : e = 0 := by simpa using he
    subst he0
    have c2 : ((0 : Int) != 0) = false := rfl
    unfold ownV
    by_cases o1 : op = 1
    · rw [if_pos o1]
      have d1 : (op == 1) = true := beq_t o1
      have hva := fun ro m hro => variable_ev s w vs env bnd h hN.hvs hN.henv nm ro m hro
      generalize varV s w vs env nm = r at hva ⊢
      obtain ⟨rv, re⟩ := r
      simp only [go_sem, ↓reduceIte, c2, d1, hall, hva, encQ, encP, Tm.op, Tm.nm, Tm.nu, Tm.l, hro1, hro]
    have d1 : (op == 1) = false := beq_f o1
    rw [if_neg o1, if_neg o2] at hty ⊢
    by_cases o3 : op = 3
    · rw [if_pos o3] at hty ⊢
      obtain ⟨f, hf, _, _, hh⟩ := hty
      have d3 : (op == 3) = true := beq_t o3
      have hap := fun ro m hro => apply_ev s w vs env bnd h nm f hf vl (fun hw => hvin f.args hh (args_not_int hw)) ro m hro
      generalize appV s w nm vl = r at hap ⊢
      obtain ⟨rv, re⟩ := r
      simp only [go_sem, ↓reduceIte, c2, d1, d2, d3, hall, hap, encQ, encP, Tm.op, Tm.nm, Tm.nu, Tm.l, hro1, hro]
    have d3 : (op == 3) = false := beq_f o3
    rw [if_neg o3] at hty ⊢
    by_cases o5 : op = 5
    · rw [if_neg (by omega), if_pos (.inl o5)] at hty
      rw [if_pos o5]
      have d5 : (op == 5) = true := beq_t o5
      obtain ⟨x, y, rfl⟩ := len_two (hvl.trans (tysT_len hty.2))
      have ha := fun ro m => add_ev x y (hvo x (by simp)) (hvo y (by simp)) ro m
      have hn := fun ro m => number_ev (x + y) ro m
      simp only [List.getD_cons_zero, List.getD_cons_succ]
      generalize numS (x + y) = r at ha hn
      generalize fitsV (x + y) = r2 at hn ⊢
      obtain ⟨rv, rb⟩ := r
      obtain ⟨qv, qe⟩ := r2
      simp only [go_sem, ↓reduceIte, c2, d1, d2, d3, d5, hall, ha, hn, encQ, encP, encNB, Tm.op, Tm.nm, Tm.nu, Tm.l, hro1, hro, List.map_cons, List.map_nil, Int.reduceLE]
    have d5 : (op == 5) = false := beq_f o5
    rw [if_neg o5]
    by_cases o6 : op = 6
    · rw [if_neg (by omega), if_pos (.inr o6)] at hty
      rw [if_pos o6]
      have d6 : (op == 6) = true := beq_t o6
      obtain ⟨x, y, rfl⟩ := len_two (hvl.trans (tysT_len hty.2))
      have ha := fun ro m => sub_ev x y (hvo x (by simp)) (hvo y (by simp)) ro m
      have hn := fun ro m => number_ev (x - y) ro m
      simp only [List.getD_cons_zero, List.getD_cons_succ]
      generalize numS (x - y) = r at ha hn
      generalize fitsV (x - y) = r2 at hn ⊢
      obtain ⟨rv, rb⟩ := r
      obtain ⟨qv, qe⟩ := r2
      simp only [go_sem, ↓reduceIte, c2, d1, d2, d3, d5, d6, hall, ha, hn, encQ, encP, encNB, Tm.op, Tm.nm, Tm.nu, Tm.l, hro1, hro, List.map_cons, List.map_nil, Int.reduceLE]
    have d6 : (op == 6) = false := beq_f o6
    rw [if_neg o6]
    by_cases o4 : op = 4
    · rw [if_neg (by omega), if_neg (by omega)]
      have d7 : (op == 7) = false := beq_f (by omega)
      have d8 : (op == 8) = false := beq_f (by omega)
      simp only [go_sem, ↓reduceIte, c2, d1, d2, d3, d5, d6, d7, d8, hall, encQ, encP, Tm.op, Tm.nm, Tm.nu, Tm.l, hro1, hro]
    rw [if_neg o4, if_neg (by omega)] at hty
    obtain ⟨x, rfl⟩ := len_one (hvl.trans (tysT_len hty.2.2))
    by_cases o7 : op = 7
    · rw [if_pos o7]
      have d7 : (op == 7) = true := beq_t o7
      have ha := fun ro m => neg_ev x (hvo x (by simp)) ro m
      have hn := fun ro m => number_ev (-x) ro m
      simp only [List.getD_cons_zero]
      generalize numS (-x) = r at ha hn
      generalize fitsV (-x) = r2 at hn ⊢
      obtain ⟨rv, rb⟩ := r
      obtain ⟨qv, qe⟩ := r2
      simp only [go_sem, ↓reduceIte, c2, d1, d2, d3, d5, d6, d7, hall, ha, hn, encQ, encP, encNB, Tm.op, Tm.nm, Tm.nu, Tm.l, hro1, hro, List.map_cons, List.map_nil, Int.reduceLE]
    · have o8 : op = 8 := by omega
      rw [if_neg o7, if_pos o8]
      have d7 : (op == 7) = false := beq_f o7
      have d8 : (op == 8) = true := beq_t o8
      have ha := fun ro m => mul_ev nu x hnu (hvo x (by simp)) ro m
      have hn := fun ro m => number_ev (nu * x) ro m
      simp only [List.getD_cons_zero]
      generalize numS (nu * x) = r at ha hn
      generalize fitsV (nu * x) = r2 at hn ⊢
      obtain ⟨rv, rb⟩ := r
      obtain ⟨qv, qe⟩ := r2
      simp only [go_sem, ↓reduceIte, c2, d1, d2, d3, d5, d6, d7, d8, hall, ha, hn, encQ, encP, encNB, Tm.op, Tm.nm, Tm.nu, Tm.l, hro1, hro, List.map_cons, List.map_nil, Int.reduceLE]
end Go.Eng
