-- own work: an evaluator of the program's code, and what it answers
import Derived.Test.YtdmoipccmbimhaaGreatDoorAnZ
/- The sizes of a world, and how many values a table has. -/
set_option maxRecDepth 100000
set_option linter.unusedVariables false
set_option linter.unusedSimpArgs false
namespace Go.Eng
open Go Go.Proofs
structure Wd where
  sizes : List Int
  tables : List (List Int)
def encL (l : List Int) : C := .sl (l.map cI)
def encW (w : Wd) : C := .agg [.sl (w.sizes.map cI), .sl (w.tables.map encL)]
structure okW (w : Wd) : Prop where
  sizes : w.sizes.length ≤ maxLen
  tables : w.tables.length ≤ maxLen
  each : ∀ x ∈ w.tables, x.length ≤ maxLen
theorem encL_cells {l : List Int} : (encL l).cells = [.sl (l.map cI)] := rfl
theorem encL_agg {l : List Int} : (encL l).isAgg = false := rfl
theorem encL_def {l : List Int} : encL l = .sl (l.map cI) := rfl
theorem encW_cells {w : Wd} : (encW w).cells = [.sl (w.sizes.map cI), .sl (w.tables.map encL)] := rfl
theorem encW_fold {w : Wd} : C.agg [.sl (w.sizes.map cI), .sl (w.tables.map encL)] = encW w := rfl
theorem encW_agg {w : Wd} : (encW w).isAgg = true := rfl
attribute [go_sem] encL_cells encL_agg encW_cells encW_fold encW_agg
def keysC (so : List ByteArray) : List Value := (sBool :: so).map Value.string
def valsC (l : List Int) : List C := ((2 : Int) :: l).map cI
theorem sizesC_def (so : List ByteArray) (l : List Int) : sizesC so l = .mp (keysC so) (valsC l) := rfl
theorem mp_cells {ks : List Value} {vs : List C} : (C.mp ks vs).cells = [.mp ks vs] := rfl
theorem mp_agg {ks : List Value} {vs : List C} : (C.mp ks vs).isAgg = false := rfl
attribute [go_sem] sizesC_def mp_cells mp_agg
theorem zero_int : zeroC Tryz.prog 3 = some (.int .i64 0) := by kernel_rfl
attribute [go_sem] zero_int
/-- how many values a sort has -/
def sizeI (so : List ByteArray) (l : List Int) (x : ByteArray) : Int := if beqS x sBool = true then 2 else l.getD (idx (isS x) so) 0
theorem same_str (a b : ByteArray) : Instr.sameNow .string (.string a) (.string b) = some (beqS b a) := by
  have e : (a == b) = (a.data == b.data) := rfl
  simp only [Instr.sameNow, Option.some.injEq, e]
  rw [Bool.eq_iff_iff]
  unfold beqS
  rw [Lib.toList_data, Lib.toList_data, beq_iff_eq, beq_iff_eq]
  exact ⟨fun h => by rw [h], fun h => (Array.toList_inj.1 h).symm⟩
theorem find_go (x : ByteArray) : ∀ (so : List ByteArray) (l : List Int), l.length = so.length →
    findC .string (.string x) (so.map Value.string) (l.map cI) = (if idx (isS x) so < so.length then some (some (cI (l.getD (idx (isS x) so) 0))) else some none)
  | [], [], _ => rfl
  | [], _ :: _, h => by simp at h
  | _ :: _, [], h => by simp at h
  | a :: so, v :: l, h => by
    have ih := find_go x so l (by simpa using h)
    simp only [List.map_cons, findC, same_str, List.drop_succ_cons, List.drop_zero, ih]
    by_cases hp : beqS a x = true
    · have e : idx (isS x) (a :: so) = 0 := by simp [idx, isS, hp]
      rw [e, if_pos (show 0 < (a :: so).length by simp), hp]; rfl
    · have e : idx (isS x) (a :: so) = idx (isS x) so + 1 := by simp [idx, isS, hp]
      have hp' : beqS a x = false := by simpa using hp
      rw [e, hp']
      simp only [List.length_cons, Nat.add_lt_add_iff_right, List.getD_cons_succ]
theorem find_sizes (so : List ByteArray) (l : List Int) (h : l.length = so.length) (x : ByteArray) :
    findC .string (.string x) (keysC so) (valsC l) = some (some (.v (.int .i64 (sizeI so l x)))) ∨ (findC .string (.string x) (keysC so) (valsC l) = some none ∧ sizeI so l x = 0) := by
  have hf := find_go x (sBool :: so) (2 :: l) (by simpa using h)
  unfold keysC valsC
  rw [hf]
  unfold sizeI
  by_cases hp : beqS x sBool = true
  · have e : idx (isS x) (sBool :: so) = 0 := by simp [idx, isS, beqS_comm sBool x, hp]
    rw [e, if_pos hp]
    exact .inl rfl
  · have e : idx (isS x) (sBool :: so) = idx (isS x) so + 1 := by simp [idx, isS, beqS_comm sBool x, hp]
    rw [e, if_neg hp]
    simp only [List.length_cons, Nat.add_lt_add_iff_right, List.getD_cons_succ]
    by_cases hi : idx (isS x) so < so.length
    · rw [if_pos hi]; exact .inl rfl
    · rw [if_neg hi]
      refine .inr ⟨rfl, ?_⟩
      have := idx_le (isS x) so
      rw [List.getD, List.getElem?_eq_none (by omega)]; rfl
def wholeB (f : Fu) : Bool := beqS f.res sInt || f.args.any (isS sInt)
set_option maxHeartbeats 1000000 in
theorem whole_ev (f : Fu) (hf : f.args.length ≤ maxLen) (ro : Nat) (m : Mem) : evL Tryz.prog AnZ ro 70 [.c (encF f)] m = some (.c (.v (.bool (wholeB f))), m) := by
  refine evL_by (n := 11) (by kernel_rfl) rfl fn70 rfl rfl rfl rfl ?_
  have h := fun ro m => upZ (scontains_ev f.args sInt hf ro m)
  unfold wholeB
  cases h1 : beqS f.res sInt with
  | true => simp only [go_sem, ↓reduceIte, h1, Bool.true_or]
  | false => simp only [go_sem, ↓reduceIte, h1, h, Bool.false_or]
def capI (n : Int) : Int := if 4097 < n then 4097 else n
def valN (so : List ByteArray) (l : List Int) : Int → List ByteArray → Int
  | n, [] => n
  | n, a :: r => valN so l (capI (n * sizeI so l a)) r
def valuesI (so : List ByteArray) (l : List Int) (f : Fu) : Int := if wholeB f = true then 0 else valN so l 1 f.args
theorem capI_bd {n s : Int} (h0 : 0 ≤ n) (h1 : n ≤ 4097) (s0 : 0 ≤ s) (s1 : s ≤ 8) : 0 ≤ n * s ∧ n * s ≤ 32776 ∧ 0 ≤ capI (n * s) ∧ capI (n * s) ≤ 4097 := by
  have a : 0 ≤ n * s := Int.mul_nonneg h0 s0
  have b : n * s ≤ 4097 * 8 := Int.mul_le_mul h1 s1 s0 (by omega)
  unfold capI
  refine ⟨a, by omega, ?_, ?_⟩ <;> split <;> omega
set_option maxHeartbeats 2000000 in
theorem values_ev (so : List ByteArray) (l : List Int) (f : Fu) (hl : l.length = so.length) (hz : ∀ x, 0 ≤ sizeI so l x ∧ sizeI so l x ≤ 8) (hf : f.args.length ≤ maxLen) (ro : Nat) (m : Mem) (hro : ro ≤ m.length) :
    evL Tryz.prog AnZ ro 43 [.c (sizesC so l), .c (encF f)] m = some (.c (.v (.int .i64 (valuesI so l f))), m) := by
  have hf' := hf
  rw [maxLen_eq] at hf
  have hw := fun ro m => whole_ev f hf' ro m
  refine evL_by (n := 25) (by kernel_rfl) rfl fn43 rfl rfl rfl rfl ?_
  simp only [go_sem, ↓reduceIte]
  generalize hL : loopW _ _ = L
  obtain ⟨⟨i, n⟩, ⟨h1, h2, h3, h4⟩, hE, rfl⟩ := loopW_at hL (fun p : Nat × Int => [(11, .c (.v (.int .i64 p.1))), (5, .c (.v (.int .i64 p.2)))]) (fun _ => [] :: m) (fun p => p.1 ≤ f.args.length ∧ 0 ≤ p.2 ∧ p.2 ≤ 4097 ∧ valN so l 1 f.args = valN so l p.2 (f.args.drop p.1)) (fun p => p.1 = f.args.length) (fun p => f.args.length - p.1) (0, 1) rfl rfl ⟨by omega, by decide, by decide, by simp⟩ (by
    rintro ⟨i, n⟩ ⟨h1, h2, h3, h4⟩ hE
    dsimp only at h1 h2 h3 h4 hE
    obtain ⟨x, hx⟩ : ∃ x, f.args[i]? = some x := ⟨_, List.getElem?_eq_getElem (by omega)⟩
    have c1 : decide ((i : Int) < (f.args.length : Int)) = true := dec_t (by omega)
    have c3 : IntKind.i64.wrap ((i : Int) + 1) = ((i + 1 : Nat) : Int) := wrap64 (by omega) (by omega)
    have bd := capI_bd h2 h3 (hz x).1 (hz x).2
    refine ⟨(i + 1, capI (n * sizeI so l x)), ⟨by omega, bd.2.2.1, bd.2.2.2, ?_⟩, by omega, ?_⟩
    · rw [h4]
      dsimp only
      rw [show f.args.drop i = x :: f.args.drop (i + 1) from by
        obtain ⟨hi, rfl⟩ := List.getElem?_eq_some_iff.1 hx
        exact List.drop_eq_getElem_cons hi]
      rfl
    rw [round_go]
    have c4 : IntKind.i64.wrap (n * sizeI so l x) = n * sizeI so l x := wrap64 (by omega) (by omega)
    have c5 : (if (4097 : Int) < n * sizeI so l x then (4097 : Int) else n * sizeI so l x) = capI (n * sizeI so l x) := rfl
    rcases find_sizes so l hl x with h | ⟨h, h0⟩
    · simp only [go_sem, ↓reduceIte, c1, c3, hx, h, c4, minmax, c5]
    · rw [h0] at c4 c5 ⊢
      simp only [go_sem, ↓reduceIte, c1, c3, hx, h, c4, minmax, c5])
  clear hL
  dsimp only at h1 h2 h3 h4 hE
  subst hE
  rw [List.drop_length, valN] at h4
  rw [loopW_go]
  have c1 : decide ((f.args.length : Int) < (f.args.length : Int)) = false := dec_f (by omega)
  unfold valuesI
  cases hb : wholeB f with
  | true => rw [hb] at hw; simp only [go_sem, ↓reduceIte, c1, hw, hro]
  | false => rw [hb] at hw; rw [h4]; simp only [go_sem, ↓reduceIte, c1, hw, hro, Bool.false_eq_true]
end Go.Eng
/- Whether a world is one of a signature: package world. -/
set_option maxRecDepth 100000
set_option linter.unusedVariables false
set_option linter.unusedSimpArgs false
namespace Go.Eng
open Go Go.Proofs
theorem idxAny {α : Type} (p : α → Bool) (l : List α) : decide (0 ≤ (if idx p l < l.length then (idx p l : Int) else -1)) = l.any p := by
  rw [← idx_any]
  split
  · rename_i h; rw [dec_t h, dec_t (by omega)]
  · rename_i h; rw [dec_f h]; rfl
def badN (n : Int) : Bool := decide (n < 1) || decide (n > 8)
set_option maxHeartbeats 1000000 in
theorem badN_ev (n : Int) (ro : Nat) (m : Mem) : evL Tryz.prog AnZ ro 69 [.c (.v (.int .i64 n))] m = some (.c (.v (.bool (badN n))), m) := by
  refine evL_by (n := 9) (by kernel_rfl) rfl fn69 rfl rfl rfl rfl ?_
  unfold badN
  cases h1 : decide (n < 1) <;> cases h2 : decide (n > 8) <;> simp only [go_sem, ↓reduceIte, h1, h2]
set_option maxHeartbeats 1000000 in
theorem bindex_ev (l : List Int) (hl : l.length ≤ maxLen) (ro : Nat) (m : Mem) :
    evL Tryz.prog AnZ ro 71 [.c (.sl (l.map cI)), .c (.fn (.func 69) [])] m = some (.c (.v (.int .i64 (if idx badN l < l.length then (idx badN l : Int) else -1))), m) := by
  rw [maxLen_eq] at hl
  refine evL_by (n := 19) (by kernel_rfl) rfl fn71 rfl rfl rfl rfl ?_
  simp only [go_sem, ↓reduceIte]
  generalize hL : loopW _ _ = L
  have hle := idx_le badN l
  obtain ⟨i, h1, hE, rfl⟩ := loopW_at hL (fun i : Nat => [(8, .c (.v (.int .i64 i)))]) (fun _ => [] :: m) (fun i => i ≤ idx badN l) (fun i => i = idx badN l) (fun i => l.length - i) 0 rfl rfl (by omega) (by
    rintro i h1 hE
    obtain ⟨x, hx⟩ : ∃ x, l[i]? = some x := ⟨_, List.getElem?_eq_getElem (by omega)⟩
    have c1 : decide ((i : Int) < (l.length : Int)) = true := dec_t (by omega)
    have c3 : IntKind.i64.wrap ((i : Int) + 1) = ((i + 1 : Nat) : Int) := wrap64 (by omega) (by omega)
    have c2 := idx_not badN l i x (by omega) hx
    have e := fun ro m => badN_ev x ro m
    rw [c2] at e
    refine ⟨i + 1, by omega, by omega, ?_⟩
    rw [round_go]
    simp only [go_sem, ↓reduceIte, c1, c3, hx, e])
  clear hL
  subst hE
  rw [loopW_go]
  by_cases hi : idx badN l < l.length
  · obtain ⟨x, hx⟩ : ∃ x, l[idx badN l]? = some x := ⟨_, List.getElem?_eq_getElem hi⟩
    have c1 : decide ((idx badN l : Int) < (l.length : Int)) = true := dec_t (by omega)
    have c2 := idx_is badN l x hx
    have e := fun ro m => badN_ev x ro m
    rw [c2] at e
    simp only [go_sem, ↓reduceIte, c1, hx, e, if_pos hi]
  · have c1 : decide ((idx badN l : Int) < (l.length : Int)) = false := dec_f (by omega)
    simp only [go_sem, ↓reduceIte, c1, if_neg hi]
set_option maxHeartbeats 1000000 in
theorem bcontains_ev (l : List Int) (hl : l.length ≤ maxLen) (ro : Nat) (m : Mem) :
    evL Tryz.prog AnZ ro 44 [.c (.sl (l.map cI)), .c (.fn (.func 69) [])] m = some (.c (.v (.bool (l.any badN))), m) := by
  have h := fun ro m => bindex_ev l hl ro m
  refine evL_by (n := 9) (by kernel_rfl) rfl fn44 rfl rfl rfl rfl ?_
  rw [← idxAny]
  simp only [go_sem, ↓reduceIte, ge_iff_le, h]
def sizedE (s : Sg) (l : List Int) : Int := if signE s ≠ 0 then signE s else if l.length ≠ s.sorts.length then 1 else if l.any badN = true then 1 else 0
set_option maxHeartbeats 1000000 in
theorem sized_ev (s : Sg) (l : List Int) (hs : okS s) (hl : l.length ≤ maxLen) (ro : Nat) (m : Mem) :
    evL Tryz.prog AnZ ro 41 [.c (encS s), .c (.sl (l.map cI))] m = some (.c (.v (.int .i64 (sizedE s l))), m) := by
  refine evL_by (n := 21) (by kernel_rfl) rfl fn41 rfl rfl rfl rfl ?_
  have h := fun ro m => sright_ev s hs ro m
  have hb := fun ro m => bcontains_ev l hl ro m
  unfold sizedE
  generalize signE s = e at h
  by_cases h0 : e = 0
  · subst h0
    have cz : ((0 : Int) != 0) = false := rfl
    rw [if_neg (by simp)]
    by_cases h1 : l.length = s.sorts.length
    · have c1 : ((l.length : Int) != (s.sorts.length : Int)) = false := bneI_f (by omega)
      rw [if_neg (by simpa using h1)]
      cases h2 : l.any badN <;> rw [h2] at hb <;> simp only [go_sem, ↓reduceIte, h, cz, c1, hb, Bool.false_eq_true]
    · have c1 : ((l.length : Int) != (s.sorts.length : Int)) = true := bneI_t (by omega)
      rw [if_pos (by simpa using h1)]
      simp only [go_sem, ↓reduceIte, h, cz, c1]
  · have c1 : (e != 0) = true := bneI_t h0
    rw [if_pos h0]
    simp only [go_sem, ↓reduceIte, h, c1]
theorem fstE_cases {e : Nat → Int} {n : Nat} : (fstE e n = 0 ∧ ∀ i, i < n → e i = 0) ∨ (∃ i, i < n ∧ e i ≠ 0 ∧ fstE e n = e i ∧ ∀ j, j < i → e j = 0) := by
  by_cases h : fstI e n < n
  · refine .inr ⟨fstI e n, h, fstI_is h, by unfold fstE; rw [if_pos h], fun j hj => fstI_not (n := n) hj⟩
  · refine .inl ⟨by unfold fstE; rw [if_neg h], fun i hi => fstI_not (n := n) (by omega)⟩
/-- what is known of sorts that are right -/
theorem sortsE_ok {l : List ByteArray} (h : sortsE l = 0) (hs : ∀ x ∈ l, x.size ≤ maxLen) : (sBool :: l).Nodup ∧ ∀ x ∈ l, mayS x = true := by
  have h64 : ¬ 64 < l.length := by intro hx; unfold sortsE at h; rw [if_pos hx] at h; cases h
  unfold sortsE at h
  rw [if_neg h64] at h
  have hz := fstE_zero h
  have key : ∀ i x, l[i]? = some x → mayS x = true ∧ (l.take i).any (isS x) = false := by
    intro i x hx
    have hi := (List.getElem?_eq_some_iff.1 hx).1
    have := hz i hi
    simp only [sortE, hx] at this
    have k1 : mayS x = true := by cases h : mayS x <;> simp [h] at this ⊢
    refine ⟨k1, ?_⟩
    rw [k1] at this
    cases h : (l.take i).any (isS x) <;> simp [h] at this ⊢
  have hmay : ∀ x ∈ l, mayS x = true := fun x hx => by
    obtain ⟨i, hi⟩ := List.getElem?_of_mem hx
    exact (key i x hi).1
  refine ⟨List.nodup_cons.2 ⟨fun hm => ?_, ?_⟩, hmay⟩
  · have := hmay _ hm
    simp [mayS, beqS] at this
  · show List.Pairwise (· ≠ ·) l
    rw [List.pairwise_iff_getElem]
    intro a b ha hb hlt hab
    have := (key b l[b] (List.getElem?_eq_getElem hb)).2
    rw [List.any_eq_false] at this
    refine this l[a] ?_ (by simp [isS, beqS, hab])
    rw [List.mem_take_iff_getElem]
    exact ⟨a, by omega, rfl⟩
theorem sizedE_ok {s : Sg} {l : List Int} (hs : okS s) (h : sizedE s l = 0) : sizesP s.sorts l ∧ signE s = 0 ∧ ∀ x ∈ l, 1 ≤ x ∧ x ≤ 8 := by
  unfold sizedE at h
  have h0 : signE s = 0 := by
    by_cases hc : signE s = 0
    · exact hc
    · rw [if_pos hc] at h; exact absurd h hc
  rw [h0, if_neg (by simp)] at h
  have h1 : l.length = s.sorts.length := by
    by_cases hc : l.length = s.sorts.length
    · exact hc
    · rw [if_pos (by simpa using hc)] at h; cases h
  rw [if_neg (by simpa using h1)] at h
  have h2 : l.any badN = false := by cases hb : l.any badN <;> simp [hb] at h ⊢
  have hso : sortsE s.sorts = 0 := by
    unfold signE at h0
    by_cases hc : sortsE s.sorts = 0
    · exact hc
    · rw [if_pos hc] at h0; exact absurd h0 hc
  refine ⟨⟨h1, by have := sortsE_len hso; omega, (sortsE_ok hso hs.each).1, hs.each⟩, h0, fun x hx => ?_⟩
  have := List.any_eq_false.1 h2 x hx
  simp only [badN, Bool.or_eq_true, decide_eq_true_eq, not_or] at this
  omega
theorem sizeI_bd {so : List ByteArray} {l : List Int} (h : ∀ x ∈ l, 1 ≤ x ∧ x ≤ 8) (x : ByteArray) : 0 ≤ sizeI so l x ∧ sizeI so l x ≤ 8 := by
  unfold sizeI
  split
  · omega
  · by_cases hi : idx (isS x) so < l.length
    · rw [List.getD, List.getElem?_eq_getElem hi]
      have := h _ (List.getElem_mem hi)
      simp only [Option.getD_some]
      omega
    · rw [List.getD, List.getElem?_eq_none (by omega)]
      simp
end Go.Eng
/- Whether a world is one of a signature: package world's Right. -/
set_option maxRecDepth 100000
set_option linter.unusedVariables false
set_option linter.unusedSimpArgs false
namespace Go.Eng
open Go Go.Proofs
theorem look_lowZ {fr : Fr} {m : Mem} {D t : Nat} (h : D < m.length) : look (fr :: m) D t = look m D t := by
  simp only [look]; rw [if_neg (by omega)]
def outB (z v : Int) : Bool := decide (v < 0) || decide (v ≥ z)
def mpC (so : List ByteArray) (l : List Int) : C := .mp (keysC so) (valsC l)
set_option maxHeartbeats 1000000 in
theorem out_ev (so : List ByteArray) (l : List Int) (f : Fu) (hl : l.length = so.length) (v : Int) (D : Nat) (m : Mem) (ro : Nat) (hro : ro ≤ D) (hD : D < m.length) (h6 : look m D 6 = some [.c (.mp (keysC so) (valsC l))]) (h8 : look m D 8 = some (boxF f)) :
    evL Tryz.prog AnZ ro 45 [.c (.v (.int .i64 v)), .p D 6 0, .p D 8 0] m = some (.c (.v (.bool (outB (sizeI so l f.res) v))), m) := by
  have hroD : ro ≤ m.length := by omega
  have e1 : (D = m.length) = False := by simp; omega
  have l1 : ∀ fr, look (fr :: m) D 6 = some [.c (.mp (keysC so) (valsC l))] := fun fr => (look_lowZ hD).trans h6
  have l2 : ∀ fr, look (fr :: m) D 8 = some [.c (.v (.string f.nm)), .c (.sl (f.args.map cS)), .c (.v (.string f.res))] := fun fr => (look_lowZ hD).trans h8
  have hlt : decide (D < m.length + 1) = true := dec_t (by omega)
  refine evL_by (n := 15) (by kernel_rfl) rfl fn45 rfl rfl rfl rfl ?_
  unfold outB
  cases h1 : decide (v < 0) with
  | true => simp only [go_sem, ↓reduceIte, l1, l2, hro, hroD, e1, hlt, h1, Bool.true_or]
  | false =>
    rcases find_sizes so l hl f.res with h | ⟨h, h0⟩
    · cases h2 : decide (v ≥ sizeI so l f.res) <;> simp only [go_sem, ↓reduceIte, l1, l2, hro, hroD, e1, hlt, h1, h, h2, Bool.false_or]
    · rw [h0]
      cases h2 : decide (v ≥ 0) <;> simp only [go_sem, ↓reduceIte, l1, l2, hro, hroD, e1, hlt, h1, h, h2, Bool.false_or]
set_option maxHeartbeats 2000000 in
theorem oindex_ev (so : List ByteArray) (l : List Int) (f : Fu) (hl : l.length = so.length) (t : List Int) (ht : t.length ≤ maxLen) (D : Nat) (m : Mem) (ro : Nat) (hro : ro ≤ D) (hD : D < m.length) (h6 : look m D 6 = some [.c (.mp (keysC so) (valsC l))]) (h8 : look m D 8 = some (boxF f)) :
    evL Tryz.prog AnZ ro 71 [.c (.sl (t.map cI)), .fn (.func 45) [.p D 6 0, .p D 8 0]] m = some (.c (.v (.int .i64 (if idx (outB (sizeI so l f.res)) t < t.length then (idx (outB (sizeI so l f.res)) t : Int) else -1))), m) := by
  rw [maxLen_eq] at ht
  have hroD : ro ≤ m.length := by omega
  have e1 : (D = m.length) = False := by simp; omega
  have hlt : decide (D < m.length + 1) = true := dec_t (by omega)
  have hlt2 : decide (D < m.length + 1 + 1) = true := dec_t (by omega)
  have h1' := fun v fr => out_ev so l f hl v D (fr :: m) ro hro (by simp; omega) ((look_lowZ hD).trans h6) ((look_lowZ hD).trans h8)
  refine evL_by (n := 19) (by kernel_rfl) rfl fn71 rfl rfl rfl rfl ?_
  simp only [go_sem, ↓reduceIte, hlt, hlt2, e1]
  generalize sizeI so l f.res = z at *
  generalize hL : loopW _ _ = L
  have hle := idx_le (outB z) t
  obtain ⟨i, h1, hE, rfl⟩ := loopW_at hL (fun i : Nat => [(8, .c (.v (.int .i64 i)))]) (fun _ => [] :: m) (fun i => i ≤ idx (outB z) t) (fun i => i = idx (outB z) t) (fun i => t.length - i) 0 rfl rfl (by omega) (by
    rintro i h1 hE
    obtain ⟨x, hx⟩ : ∃ x, t[i]? = some x := ⟨_, List.getElem?_eq_getElem (by omega)⟩
    have c1 : decide ((i : Int) < (t.length : Int)) = true := dec_t (by omega)
    have c3 : IntKind.i64.wrap ((i : Int) + 1) = ((i + 1 : Nat) : Int) := wrap64 (by omega) (by omega)
    have c2 := idx_not (outB z) t i x (by omega) hx
    refine ⟨i + 1, by omega, by omega, ?_⟩
    rw [round_go]
    simp only [go_sem, ↓reduceIte, c1, c2, c3, hx, h1', hro, hroD, e1, hlt, hlt2])
  clear hL
  subst hE
  rw [loopW_go]
  by_cases hi : idx (outB z) t < t.length
  · obtain ⟨x, hx⟩ : ∃ x, t[idx (outB z) t]? = some x := ⟨_, List.getElem?_eq_getElem hi⟩
    have c1 : decide ((idx (outB z) t : Int) < (t.length : Int)) = true := dec_t (by omega)
    have c2 := idx_is (outB z) t x hx
    simp only [go_sem, ↓reduceIte, c1, c2, hx, h1', if_pos hi, hro, hroD, e1, hlt, hlt2]
  · have c1 : decide ((idx (outB z) t : Int) < (t.length : Int)) = false := dec_f (by omega)
    simp only [go_sem, ↓reduceIte, c1, if_neg hi, hro, hroD, e1, hlt, hlt2]
set_option maxHeartbeats 1000000 in
theorem ocontains_ev (so : List ByteArray) (l : List Int) (f : Fu) (hl : l.length = so.length) (t : List Int) (ht : t.length ≤ maxLen) (D : Nat) (m : Mem) (ro : Nat) (hro : ro ≤ D) (hD : D < m.length) (h6 : look m D 6 = some [.c (.mp (keysC so) (valsC l))]) (h8 : look m D 8 = some (boxF f)) :
    evL Tryz.prog AnZ ro 44 [.c (.sl (t.map cI)), .fn (.func 45) [.p D 6 0, .p D 8 0]] m = some (.c (.v (.bool (t.any (outB (sizeI so l f.res))))), m) := by
  have hroD : ro ≤ m.length := by omega
  have e1 : (D = m.length) = False := by simp; omega
  have hlt : decide (D < m.length + 1) = true := dec_t (by omega)
  have hlt2 : decide (D < m.length + 1 + 1) = true := dec_t (by omega)
  have h1' := fun fr => oindex_ev so l f hl t ht D (fr :: m) ro hro (by simp; omega) ((look_lowZ hD).trans h6) ((look_lowZ hD).trans h8)
  refine evL_by (n := 9) (by kernel_rfl) rfl fn44 rfl rfl rfl rfl ?_
  rw [← idxAny]
  simp only [go_sem, ↓reduceIte, ge_iff_le, h1', hro, hroD, e1, hlt, hlt2]
/-- what is wrong with a table -/
def tabE (s : Sg) (w : Wd) (i : Nat) : Int := match s.funs[i]?, w.tables[i]? with
  | some f, some t => if 4096 < valuesI s.sorts w.sizes f then 2 else if (t.length : Int) ≠ valuesI s.sorts w.sizes f then 1 else if t.any (outB (sizeI s.sorts w.sizes f.res)) = true then 1 else 0
  | _, _ => 0
def wrightE (s : Sg) (w : Wd) : Int := if sizedE s w.sizes ≠ 0 then sizedE s w.sizes else if w.tables.length ≠ s.funs.length then 1 else fstE (tabE s w) s.funs.length
set_option maxHeartbeats 4000000 in
theorem wright_ev (s : Sg) (w : Wd) (hs : okS s) (hw : okW w) (ro : Nat) (m : Mem) (hro : ro ≤ m.length) :
    evL Tryz.prog AnZ ro 11 [.c (encS s), .c (encW w)] m = some (.c (.v (.int .i64 (wrightE s w))), m) := by
  have hro1 : ro ≤ m.length + 1 := by omega
  refine evL_by (n := 61) (by kernel_rfl) rfl fn11 rfl rfl rfl rfl ?_
  have h := fun ro m => sized_ev s w.sizes hs hw.sizes ro m
  unfold wrightE
  by_cases h0 : sizedE s w.sizes = 0
  · obtain ⟨hp, hsg, hbd⟩ := sizedE_ok hs h0
    rw [h0] at h ⊢
    have cz : ((0 : Int) != 0) = false := rfl
    rw [if_neg (by simp)]
    have hsz := fun ro m => sizes_ev s w.sizes hp ro m
    by_cases h1 : w.tables.length = s.funs.length
    · have c1 : ((w.tables.length : Int) != (s.funs.length : Int)) = false := bneI_f (by omega)
      rw [if_neg (by simpa using h1)]
      have hl := hs.funs
      rw [maxLen_eq] at hl
      simp only [go_sem, ↓reduceIte, h, cz, c1, hsz, hro, hro1]
      generalize hL : loopW _ _ = L
      have hle := fstI_le (tabE s w) s.funs.length
      have hva := fun f (hf : f.args.length ≤ maxLen) ro m hro => values_ev s.sorts w.sizes f hp.len (sizeI_bd hbd) hf ro m hro
      simp only [sizesC_def] at hva
      obtain ⟨i, k1, hE, rfl⟩ := loopW_at hL (fun i : Nat => [(31, .c (.v (.int .i64 i)))]) (fun _ => [(6, [.c (.mp (keysC s.sorts) (valsC w.sizes))])] :: m) (fun i => i ≤ fstI (tabE s w) s.funs.length) (fun i => i = fstI (tabE s w) s.funs.length) (fun i => s.funs.length - i) 0 rfl rfl (by omega) (by
        rintro i k1 hE
        obtain ⟨f, hx⟩ : ∃ x, s.funs[i]? = some x := ⟨_, List.getElem?_eq_getElem (by omega)⟩
        obtain ⟨t, ht⟩ : ∃ x, w.tables[i]? = some x := ⟨_, List.getElem?_eq_getElem (by omega)⟩
        have c2 : decide ((i : Int) < (s.funs.length : Int)) = true := dec_t (by omega)
        have c3 : IntKind.i64.wrap ((i : Int) + 1) = ((i + 1 : Nat) : Int) := wrap64 (by omega) (by omega)
        have c4 := fstI_not (e := tabE s w) (n := s.funs.length) (i := i) (by omega)
        simp only [tabE, hx, ht] at c4
        have hv := hva f (hs.fun_ f (List.mem_of_getElem? hx)).args
        have hoc := fun fr (hh : lk fr 6 = some [.c (.mp (keysC s.sorts) (valsC w.sizes))]) (hf8 : lk fr 8 = some (boxF f)) => ocontains_ev s.sorts w.sizes f hp.len t (hw.each t (List.mem_of_getElem? ht)) m.length (fr :: m) ro hro (by simp) (look_top.trans hh) (look_top.trans hf8)
        generalize valuesI s.sorts w.sizes f = n at c4 hv
        generalize t.any (outB (sizeI s.sorts w.sizes f.res)) = b at c4 hoc
        have k2 : ¬ 4096 < n := by intro hc; rw [if_pos hc] at c4; cases c4
        rw [if_neg k2] at c4
        have k3 : (t.length : Int) = n := by
          by_cases hc : (t.length : Int) = n
          · exact hc
          · rw [if_pos (by simpa using hc)] at c4; cases c4
        rw [if_neg (by simpa using k3)] at c4
        have k4 : b = false := by cases b <;> simp at c4 ⊢
        subst k4
        have d2 : decide (n > 4096) = false := dec_f (by omega)
        have d3 : ((t.length : Int) != n) = false := bneI_f k3
        have ho := hoc [(6, [.c (.mp (keysC s.sorts) (valsC w.sizes))]), (8, boxF f)] rfl rfl
        simp only [boxF] at ho
        refine ⟨i + 1, by omega, by omega, ?_⟩
        rw [round_go]
        simp only [go_sem, ↓reduceIte, c2, c3, hx, ht, hv, d2, d3, encL_def, ho, hro, hro1])
      clear hL
      rw [loopW_go]
      unfold fstE
      rw [← hE]
      by_cases hi : i < s.funs.length
      · obtain ⟨f, hx⟩ : ∃ x, s.funs[i]? = some x := ⟨_, List.getElem?_eq_getElem hi⟩
        obtain ⟨t, ht⟩ : ∃ x, w.tables[i]? = some x := ⟨_, List.getElem?_eq_getElem (by omega)⟩
        have c2 : decide ((i : Int) < (s.funs.length : Int)) = true := dec_t (by omega)
        have c4 := fstI_is (e := tabE s w) (n := s.funs.length) (by omega)
        rw [← hE] at c4
        rw [if_pos hi]
        simp only [tabE, hx, ht] at c4 ⊢
        have hv := hva f (hs.fun_ f (List.mem_of_getElem? hx)).args
        have hoc := fun fr (hh : lk fr 6 = some [.c (.mp (keysC s.sorts) (valsC w.sizes))]) (hf8 : lk fr 8 = some (boxF f)) => ocontains_ev s.sorts w.sizes f hp.len t (hw.each t (List.mem_of_getElem? ht)) m.length (fr :: m) ro hro (by simp) (look_top.trans hh) (look_top.trans hf8)
        generalize valuesI s.sorts w.sizes f = n at c4 hv ⊢
        generalize t.any (outB (sizeI s.sorts w.sizes f.res)) = b at c4 hoc ⊢
        have ho := hoc [(6, [.c (.mp (keysC s.sorts) (valsC w.sizes))]), (8, boxF f)] rfl rfl
        simp only [boxF] at ho
        by_cases k2 : 4096 < n
        · have d2 : decide (n > 4096) = true := dec_t (by omega)
          rw [if_pos k2]
          simp only [go_sem, ↓reduceIte, c2, hx, ht, hv, d2, hro, hro1]
        · have d2 : decide (n > 4096) = false := dec_f (by omega)
          rw [if_neg k2] at c4 ⊢
          by_cases k3 : (t.length : Int) = n
          · have d3 : ((t.length : Int) != n) = false := bneI_f k3
            rw [if_neg (by simpa using k3)] at c4 ⊢
            have k4 : b = true := by cases b <;> simp at c4 ⊢
            subst k4
            simp only [go_sem, ↓reduceIte, c2, hx, ht, hv, d2, d3, encL_def, ho, hro, hro1]
          · have d3 : ((t.length : Int) != n) = true := bneI_t k3
            rw [if_pos (by simpa using k3)]
            simp only [go_sem, ↓reduceIte, c2, hx, ht, hv, d2, d3, encL_def, hro, hro1]
      · have c2 : decide ((i : Int) < (s.funs.length : Int)) = false := dec_f (by omega)
        rw [if_neg hi]
        simp only [go_sem, ↓reduceIte, c2]
    · have c1 : ((w.tables.length : Int) != (s.funs.length : Int)) = true := bneI_t (by omega)
      rw [if_pos (by simpa using h1)]
      simp only [go_sem, ↓reduceIte, h, cz, c1]
  · have c1 : (sizedE s w.sizes != 0) = true := bneI_t h0
    rw [if_pos h0]
    simp only [go_sem, ↓reduceIte, h, c1]
end Go.Eng
