-- own work: an evaluator of the program's code, and what it answers
import Derived.Test.YtdmoipccmbimhaaGreatDoorZ6
/- A function's value in a world. -/
set_option maxRecDepth 100000
set_option linter.unusedVariables false
set_option linter.unusedSimpArgs false
namespace Go.Eng
open Go Go.Proofs
/-- a signature, and a world of it -/
structure RoomOK (s : Sg) (w : Wd) : Prop where
  hs : okS s
  hw : okW w
  hr : wrightE s w = 0
/-- values of these sorts -/
def inR (s : Sg) (w : Wd) : List ByteArray → List Int → Prop
  | [], [] => True
  | x :: r, v :: l => (0 ≤ v ∧ v < sizeI s.sorts w.sizes x) ∧ inR s w r l
  | [], _ :: _ => False
  | _ :: _, [] => False
theorem inR_len {s : Sg} {w : Wd} : ∀ {r : List ByteArray} {l : List Int}, inR s w r l → l.length = r.length
  | [], [], _ => rfl
  | x :: r, v :: l, h => by simp [inR_len h.2]
  | [], _ :: _, h => h.elim
  | _ :: _, [], h => h.elim
theorem inR_get {s : Sg} {w : Wd} : ∀ {r : List ByteArray} {l : List Int} {i : Nat} {x : ByteArray} {v : Int}, inR s w r l → r[i]? = some x → l[i]? = some v → 0 ≤ v ∧ v < sizeI s.sorts w.sizes x
  | x :: r, v :: l, 0, y, z, h, h1, h2 => by simp at h1 h2; subst h1 h2; exact h.1
  | x :: r, v :: l, i + 1, y, z, h, h1, h2 => inR_get h.2 (by simpa using h1) (by simpa using h2)
  | [], [], _, _, _, _, h1, _ => by simp at h1
  | [], _ :: _, _, _, _, h, _, _ => h.elim
  | _ :: _, [], _, _, _, h, _, _ => h.elim
def prodN (so : List ByteArray) (l : List Int) : Int → List ByteArray → Int
  | n, [] => n
  | n, a :: r => prodN so l (n * sizeI so l a) r
theorem lenGo_prod (so : List ByteArray) (l : List Int) : ∀ (args : List ByteArray) (n : Int), lenGo so l n args ≤ 4096 → lenGo so l n args = prodN so l n args
  | [], n, _ => rfl
  | a :: r, n, h => by
    rw [lenGo] at h ⊢
    rw [prodN]
    split at h
    · rename_i hn; rw [if_pos hn]; exact lenGo_prod so l r _ h
    · rename_i hn; exact absurd h hn
theorem atV_lt (s : Sg) (w : Wd) (hz : ∀ x, 0 ≤ sizeI s.sorts w.sizes x) : ∀ (r : List ByteArray) (l : List Int) (a n : Int), inR s w r l → 0 ≤ a → a < n → 0 ≤ atV s w a r l ∧ atV s w a r l < prodN s.sorts w.sizes n r
  | [], [], a, n, _, h0, h1 => by simp only [atV, prodN]; exact ⟨h0, h1⟩
  | x :: r, v :: l, a, n, h, h0, h1 => by
    simp only [atV, prodN]
    have hx := hz x
    refine atV_lt s w hz r l _ _ h.2 ?_ ?_
    · have := Int.mul_nonneg h0 hx
      have := h.1.1
      omega
    · have e : (a + 1) * sizeI s.sorts w.sizes x ≤ n * sizeI s.sorts w.sizes x := Int.mul_le_mul_of_nonneg_right (by omega) hx
      rw [Int.add_mul, Int.one_mul] at e
      have := h.1.2
      omega
  | [], _ :: _, _, _, h, _, _ => h.elim
  | _ :: _, [], _, _, h, _, _ => h.elim
theorem atV_nil {s : Sg} {w : Wd} {a : Int} : atV s w a [] [] = a := by simp [atV]
theorem RoomOK.sized {s : Sg} {w : Wd} (h : RoomOK s w) : sizedE s w.sizes = 0 ∧ w.tables.length = s.funs.length ∧ ∀ i, i < s.funs.length → tabE s w i = 0 := by
  have hr := h.hr
  unfold wrightE at hr
  have h0 : sizedE s w.sizes = 0 := by
    by_cases hc : sizedE s w.sizes = 0
    · exact hc
    · rw [if_pos hc] at hr; exact absurd hr hc
  rw [h0, if_neg (by simp)] at hr
  have h1 : w.tables.length = s.funs.length := by
    by_cases hc : w.tables.length = s.funs.length
    · exact hc
    · rw [if_pos (by simpa using hc)] at hr; cases hr
  rw [if_neg (by simpa using h1)] at hr
  exact ⟨h0, h1, fstE_zero hr⟩
theorem RoomOK.bd {s : Sg} {w : Wd} (h : RoomOK s w) : ∀ x, 0 ≤ sizeI s.sorts w.sizes x ∧ sizeI s.sorts w.sizes x ≤ 8 := sizeI_bd (sizedE_ok h.hs h.sized.1).2.2
theorem findF_get {s : Sg} {nm : ByteArray} {f : Fu} (h : findF s nm = (f, true)) : s.funs[idx (hasF nm) s.funs]? = some f := by
  unfold findF at h
  cases hg : s.funs[idx (hasF nm) s.funs]? with
  | none => rw [hg] at h; cases h
  | some g => rw [hg] at h; cases h; rfl
/-- the table of a function holds a value of its sort there -/
theorem table_at {s : Sg} {w : Wd} (h : RoomOK s w) {i : Nat} {f : Fu} (hf : s.funs[i]? = some f) (hw : wholeB f = false) {l : List Int} (hl : inR s w f.args l) :
    ∃ t x, w.tables[i]? = some t ∧ 0 ≤ atV s w 0 f.args l ∧ t[(atV s w 0 f.args l).toNat]? = some x ∧ 0 ≤ x ∧ x < sizeI s.sorts w.sizes f.res := by
  obtain ⟨h0, h1, h2⟩ := h.sized
  obtain ⟨hp, hsg, hbd⟩ := sizedE_ok h.hs h0
  have hi := (List.getElem?_eq_some_iff.1 hf).1
  obtain ⟨t, ht⟩ : ∃ t, w.tables[i]? = some t := ⟨_, List.getElem?_eq_getElem (by omega)⟩
  have ht0 := h2 i hi
  simp only [tabE, hf, ht] at ht0
  rw [values_length hp.len hbd ((signE_ok hsg).2.2 i f hf).1] at ht0
  have k2 : ¬ 4096 < capI (lengthI s.sorts w.sizes f) := by intro hc; rw [if_pos hc] at ht0; cases ht0
  rw [if_neg k2] at ht0
  have k3 : (t.length : Int) = capI (lengthI s.sorts w.sizes f) := by
    by_cases hc : (t.length : Int) = capI (lengthI s.sorts w.sizes f)
    · exact hc
    · rw [if_pos (by simpa using hc)] at ht0; cases ht0
  rw [if_neg (by simpa using k3)] at ht0
  have k4 : t.any (outB (sizeI s.sorts w.sizes f.res)) = false := by cases hb : t.any (outB (sizeI s.sorts w.sizes f.res)) <;> simp [hb] at ht0 ⊢
  have k5 : lengthI s.sorts w.sizes f ≤ 4096 := by
    unfold capI at k2
    split at k2 <;> omega
  have k6 : capI (lengthI s.sorts w.sizes f) = lengthI s.sorts w.sizes f := by unfold capI; rw [if_neg (by omega)]
  have k7 : lengthI s.sorts w.sizes f = prodN s.sorts w.sizes 1 f.args := by
    unfold lengthI at k5 ⊢
    rw [hw] at k5 ⊢
    exact lenGo_prod _ _ _ _ k5
  obtain ⟨a0, a1⟩ := atV_lt s w (fun x => (h.bd x).1) f.args l 0 1 hl (by omega) (by omega)
  have hlt : (atV s w 0 f.args l).toNat < t.length := by omega
  refine ⟨t, t[(atV s w 0 f.args l).toNat], ht, a0, List.getElem?_eq_getElem hlt, ?_⟩
  have := List.any_eq_false.1 k4 _ (List.getElem_mem hlt)
  simp only [outB, Bool.or_eq_true, decide_eq_true_eq, not_or] at this
  omega
set_option maxHeartbeats 1000000 in
theorem ap1_ev (f : Fu) (nm : ByteArray) (ro : Nat) (m : Mem) : evL Tryz.prog AnZ ro 128 [.c (encF f), .c (.fp [.v (.string nm)])] m = some (.c (.v (.bool (hasF nm f))), m) := by
  refine evL_by (n := 8) (by kernel_rfl) rfl fn128 rfl rfl rfl rfl ?_
  unfold hasF
  simp only [go_sem, ↓reduceIte]
set_option maxHeartbeats 1000000 in
theorem apindex_ev (l : List Fu) (nm : ByteArray) (hl : l.length ≤ maxLen) (ro : Nat) (m : Mem) :
    evL Tryz.prog AnZ ro 127 [.c (.sl (l.map encF)), .c (.fn (.func 128) [.fp [.v (.string nm)]])] m = some (.c (.v (.int .i64 (if idx (hasF nm) l < l.length then (idx (hasF nm) l : Int) else -1))), m) := by
  rw [maxLen_eq] at hl
  refine evL_by (n := 19) (by kernel_rfl) rfl fn127 rfl rfl rfl rfl ?_
  simp only [go_sem, ↓reduceIte]
  generalize hL : loopW _ _ = L
  have hle := idx_le (hasF nm) l
  obtain ⟨i, h1, hE, rfl⟩ := loopW_at hL (fun i : Nat => [(8, .c (.v (.int .i64 i)))]) (fun _ => [] :: m) (fun i => i ≤ idx (hasF nm) l) (fun i => i = idx (hasF nm) l) (fun i => l.length - i) 0 rfl rfl (by omega) (by
    rintro i h1 hE
    obtain ⟨x, hx⟩ : ∃ x, l[i]? = some x := ⟨_, List.getElem?_eq_getElem (by omega)⟩
    have c1 : decide ((i : Int) < (l.length : Int)) = true := dec_t (by omega)
    have c3 : IntKind.i64.wrap ((i : Int) + 1) = ((i + 1 : Nat) : Int) := wrap64 (by omega) (by omega)
    have c2 := idx_not (hasF nm) l i x (by omega) hx
    have e := fun ro m => ap1_ev x nm ro m
    rw [c2] at e
    refine ⟨i + 1, by omega, by omega, ?_⟩
    rw [round_go]
    simp only [go_sem, ↓reduceIte, c1, c3, hx, e])
  clear hL
  subst hE
  rw [loopW_go]
  by_cases hi : idx (hasF nm) l < l.length
  · obtain ⟨x, hx⟩ : ∃ x, l[idx (hasF nm) l]? = some x := ⟨_, List.getElem?_eq_getElem hi⟩
    have c1 : decide ((idx (hasF nm) l : Int) < (l.length : Int)) = true := dec_t (by omega)
    have c2 := idx_is (hasF nm) l x hx
    have e := fun ro m => ap1_ev x nm ro m
    rw [c2] at e
    simp only [go_sem, ↓reduceIte, c1, hx, e, if_pos hi]
  · have c1 : decide ((idx (hasF nm) l : Int) < (l.length : Int)) = false := dec_f (by omega)
    simp only [go_sem, ↓reduceIte, c1, if_neg hi]
def bdN : Nat → Int
  | 0 => 0
  | k + 1 => 8 * bdN k + 7
theorem bdN_le {k : Nat} (h : k ≤ 8) : 0 ≤ bdN k ∧ bdN k ≤ 16777215 := by
  have : k = 0 ∨ k = 1 ∨ k = 2 ∨ k = 3 ∨ k = 4 ∨ k = 5 ∨ k = 6 ∨ k = 7 ∨ k = 8 := by omega
  rcases this with rfl | rfl | rfl | rfl | rfl | rfl | rfl | rfl | rfl <;> decide
set_option maxHeartbeats 4000000 in
theorem apply_ev (s : Sg) (w : Wd) (vs : List Va) (env : List Bd) (bnd : List Int) (h : RoomOK s w) (nm : ByteArray) (f : Fu) (hfi : findF s nm = (f, true)) (l : List Int) (hl : wholeB f = false → inR s w f.args l) (ro : Nat) (m : Mem) (hro : ro ≤ m.length) :
    evL Tryz.prog AnZ ro 79 [.c (encM s w vs env bnd), .c (.v (.string nm)), .c (.sl (l.map cI))] m = some (.tup (encP (appV s w nm l)), m) := by
  have hro1 : ro ≤ m.length + 1 := by omega
  obtain ⟨h0, h1, h2⟩ := h.sized
  obtain ⟨hp, hsg, hbd⟩ := sizedE_ok h.hs h0
  have hf := findF_get hfi
  have hi := (List.getElem?_eq_some_iff.1 hf).1
  have hx1 := fun ro m => apindex_ev s.funs nm h.hs.funs ro m
  rw [if_pos hi] at hx1
  have hwh := fun ro m => whole_ev f (h.hs.fun_ f (List.mem_of_getElem? hf)).args ro m
  have hn8 := (checkE_ok ((signE_ok hsg).2.2 _ f hf).1).2.1
  refine evL_by (n := 55) (by kernel_rfl) rfl fn79 rfl rfl rfl rfl ?_
  unfold appV
  rw [hfi]
  simp only
  generalize idx (hasF nm) s.funs = k at hf hi hx1 ⊢
  cases hb : wholeB f with
  | true =>
    rw [hb] at hwh
    simp only [go_sem, ↓reduceIte, hx1, hf, hwh, hro, hro1, encP]
  | false =>
    rw [hb] at hwh
    have hin := hl hb
    obtain ⟨t, y, ht, a0, hy, _⟩ := table_at h hf hb hin
    have hlen := inR_len hin
    simp only [go_sem, ↓reduceIte, hx1, hf, hwh, hro, hro1, encP, Bool.false_eq_true]
    generalize hL : loopW _ _ = L
    obtain ⟨⟨i, a⟩, ⟨k1, k2, k3, k4⟩, hE, rfl⟩ := loopW_at hL (fun (q : Nat × Int) => [(29, .c (.v (.int .i64 q.1))), (10, .c (.v (.int .i64 q.2)))]) (fun _ => [(9, boxF f)] :: m)
      (fun q => q.1 ≤ f.args.length ∧ 0 ≤ q.2 ∧ q.2 ≤ bdN q.1 ∧ atV s w 0 f.args l = atV s w q.2 (f.args.drop q.1) (l.drop q.1)) (fun q => q.1 = f.args.length) (fun q => f.args.length - q.1) (0, 0) rfl rfl ⟨by simp, by decide, by decide, by simp⟩ (by
      rintro ⟨i, a⟩ ⟨k1, k2, k3, k4⟩ hE
      dsimp only at k1 k2 k3 k4 hE
      obtain ⟨x, hx⟩ : ∃ x, f.args[i]? = some x := ⟨_, List.getElem?_eq_getElem (by omega)⟩
      obtain ⟨v, hv⟩ : ∃ x, l[i]? = some x := ⟨_, List.getElem?_eq_getElem (by omega)⟩
      have c1 : decide ((i : Int) < (f.args.length : Int)) = true := dec_t (by omega)
      have c3 : IntKind.i64.wrap ((i : Int) + 1) = ((i + 1 : Nat) : Int) := wrap64 (by omega) (by omega)
      obtain ⟨v0, v1⟩ := inR_get hin hx hv
      have hz := h.bd x
      have hb8 := bdN_le (k := i) (by omega)
      have e1 : 0 ≤ a * sizeI s.sorts w.sizes x := Int.mul_nonneg k2 hz.1
      have e2 : a * sizeI s.sorts w.sizes x ≤ a * 8 := Int.mul_le_mul_of_nonneg_left hz.2 k2
      have d1 : IntKind.i64.wrap (a * sizeI s.sorts w.sizes x) = a * sizeI s.sorts w.sizes x := wrap64 (by omega) (by omega)
      have d2 : IntKind.i64.wrap (a * sizeI s.sorts w.sizes x + v) = a * sizeI s.sorts w.sizes x + v := wrap64 (by omega) (by omega)
      refine ⟨(i + 1, a * sizeI s.sorts w.sizes x + v), ⟨by dsimp only; omega, by dsimp only; omega, ?_, ?_⟩, by dsimp only; omega, ?_⟩
      · dsimp only [bdN]; omega
      · dsimp only
        rw [k4, drop_get hx, drop_get hv, atV]
      rw [round_go]
      rcases find_sizes s.sorts w.sizes hp.len x with hfs | ⟨hfs, hfz⟩
      · simp only [go_sem, ↓reduceIte, c1, c3, hx, hv, hfs, d1, d2, hro, hro1]
      · rw [hfz] at d1 d2 ⊢
        simp only [go_sem, ↓reduceIte, c1, c3, hx, hv, hfs, d1, d2, hro, hro1])
    clear hL
    dsimp only at k1 k2 k3 k4 hE
    subst hE
    rw [List.drop_length, List.drop_eq_nil_of_le (by omega), atV_nil] at k4
    rw [k4] at a0 hy ⊢
    rw [loopW_go]
    have c1 : decide ((f.args.length : Int) < (f.args.length : Int)) = false := dec_f (by omega)
    have e1 : w.tables.getD k [] = t := by rw [List.getD_eq_getElem?_getD, ht]; rfl
    have e2 : t.getD a.toNat 0 = y := by rw [List.getD_eq_getElem?_getD, hy]; rfl
    rw [e1, e2]
    simp only [go_sem, ↓reduceIte, c1, ht, hy, a0, encL_def, hro, hro1]
end Go.Eng
