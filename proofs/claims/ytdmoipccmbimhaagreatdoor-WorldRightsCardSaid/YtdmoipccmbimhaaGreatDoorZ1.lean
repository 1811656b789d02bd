-- own work: an evaluator of the program's code, and what it answers
import Derived.Test.YtdmoipccmbimhaaGreatDoorAnZ
/- The sizes of a world, and how many values a table has. -/
set_option maxRecDepth 100000
set_option linter.unusedVariables false
set_option linter.unusedSimpArgs false
namespace Go.Eng
open Go Go.Proofs
structure Wd where
  sizes : List Int
  tables : List (List Int)
def encL (l : List Int) : C := .sl (l.map cI)
def encW (w : Wd) : C := .agg [.sl (w.sizes.map cI), .sl (w.tables.map encL)]
structure okW (w : Wd) : Prop where
  sizes : w.sizes.length ≤ maxLen
  tables : w.tables.length ≤ maxLen
  each : ∀ x ∈ w.tables, x.length ≤ maxLen
theorem encL_cells {l : List Int} : (encL l).cells = [.sl (l.map cI)] := rfl
theorem encL_agg {l : List Int} : (encL l).isAgg = false := rfl
theorem encL_def {l : List Int} : encL l = .sl (l.map cI) := rfl
theorem encW_cells {w : Wd} : (encW w).cells = [.sl (w.sizes.map cI), .sl (w.tables.map encL)] := rfl
theorem encW_fold {w : Wd} : C.agg [.sl (w.sizes.map cI), .sl (w.tables.map encL)] = encW w := rfl
theorem encW_agg {w : Wd} : (encW w).isAgg = true := rfl
attribute [go_sem] encL_cells encL_agg encW_cells encW_fold encW_agg
def keysC (so : List ByteArray) : List Value := (sBool :: so).map Value.string
def valsC (l : List Int) : List C := ((2 : Int) :: l).map cI
theorem sizesC_def (so : List ByteArray) (l : List Int) : sizesC so l = .mp (keysC so) (valsC l) := rfl
theorem mp_cells {ks : List Value} {vs : List C} : (C.mp ks vs).cells = [.mp ks vs] := rfl
theorem mp_agg {ks : List Value} {vs : List C} : (C.mp ks vs).isAgg = false := rfl
attribute [go_sem] sizesC_def mp_cells mp_agg
theorem zero_int : zeroC Tryz.prog 3 = some (.int .i64 0) := by kernel_rfl
attribute [go_sem] zero_int
/-- how many values a sort has -/
def sizeI (so : List ByteArray) (l : List Int) (x : ByteArray) : Int := if beqS x sBool = true then 2 else l.getD (idx (isS x) so) 0
theorem same_str (a b : ByteArray) : Instr.sameNow .string (.string a) (.string b) = some (beqS b a) := by
  have e : (a == b) = (a.data == b.data) := rfl
  simp only [Instr.sameNow, Option.some.injEq, e]
  rw [Bool.eq_iff_iff]
  unfold beqS
  rw [Lib.toList_data, Lib.toList_data, beq_iff_eq, beq_iff_eq]
  exact ⟨fun h => by rw [h], fun h => (Array.toList_inj.1 h).symm⟩
theorem find_go (x : ByteArray) : ∀ (so : List ByteArray) (l : List Int), l.length = so.length →
    findC .string (.string x) (so.map Value.string) (l.map cI) = (if idx (isS x) so < so.length then some (some (cI (l.getD (idx (isS x) so) 0))) else some none)
  | [], [], _ => rfl
  | [], _ :: _, h => by simp at h
  | _ :: _, [], h => by simp at h
  | a :: so, v :: l, h => by
    have ih := find_go x so l (by simpa using h)
    simp only [List.map_cons, findC, same_str, List.drop_succ_cons, List.drop_zero, ih]
    by_cases hp : beqS a x = true
    · have e : idx (isS x) (a :: so) = 0 := by simp [idx, isS, hp]
      rw [e, if_pos (show 0 < (a :: so).length by simp), hp]; rfl
    · have e : idx (isS x) (a :: so) = idx (isS x) so + 1 := by simp [idx, isS, hp]
      have hp' : beqS a x = false := by simpa using hp
      rw [e, hp']
      simp only [List.length_cons, Nat.add_lt_add_iff_right, List.getD_cons_succ]
theorem find_sizes (so : List ByteArray) (l : List Int) (h : l.length = so.length) (x : ByteArray) :
    findC .string (.string x) (keysC so) (valsC l) = some (some (.v (.int .i64 (sizeI so l x)))) ∨ (findC .string (.string x) (keysC so) (valsC l) = some none ∧ sizeI so l x = 0) := by
  have hf := find_go x (sBool :: so) (2 :: l) (by simpa using h)
  unfold keysC valsC
  rw [hf]
  unfold sizeI
  by_cases hp : beqS x sBool = true
  · have e : idx (isS x) (sBool :: so) = 0 := by simp [idx, isS, beqS_comm sBool x, hp]
    rw [e, if_pos hp]
    exact .inl rfl
  · have e : idx (isS x) (sBool :: so) = idx (isS x) so + 1 := by simp [idx, isS, beqS_comm sBool x, hp]
    rw [e, if_neg hp]
    simp only [List.length_cons, Nat.add_lt_add_iff_right, List.getD_cons_succ]
    by_cases hi : idx (isS x) so < so.length
    · rw [if_pos hi]; exact .inl rfl
    · rw [if_neg hi]
      refine .inr ⟨rfl, ?_⟩
      have := idx_le (isS x) so
      rw [List.getD, List.getElem?_eq_none (by omega)]; rfl
def wholeB (f : Fu) : Bool := beqS f.res sInt || f.args.any (isS sInt)
set_option maxHeartbeats 1000000 in
theorem whole_ev (f : Fu) (hf : f.args.length ≤ maxLen) (ro : Nat) (m : Mem) : evL Tryz.prog AnZ ro 70 [.c (encF f)] m = some (.c (.v (.bool (wholeB f))), m) := by
  refine evL_by (n := 11) (by kernel_rfl) rfl fn70 rfl rfl rfl rfl ?_
  have h := fun ro m => upZ (scontains_ev f.args sInt hf ro m)
  unfold wholeB
  cases h1 : beqS f.res sInt with
  | true => simp only [go_sem, ↓reduceIte, h1, Bool.true_or]
  | false => simp only [go_sem, ↓reduceIte, h1, h, Bool.false_or]
def capI (n : Int) : Int := if 4097 < n then 4097 else n
def valN (so : List ByteArray) (l : List Int) : Int → List ByteArray → Int
  | n, [] => n
  | n, a :: r => valN so l (capI (n * sizeI so l a)) r
def valuesI (so : List ByteArray) (l : List Int) (f : Fu) : Int := if wholeB f = true then 0 else valN so l 1 f.args
theorem capI_bd {n s : Int} (h0 : 0 ≤ n) (h1 : n ≤ 4097) (s0 : 0 ≤ s) (s1 : s ≤ 8) : 0 ≤ n * s ∧ n * s ≤ 32776 ∧ 0 ≤ capI (n * s) ∧ capI (n * s) ≤ 4097 := by
  have a : 0 ≤ n * s := Int.mul_nonneg h0 s0
  have b : n * s ≤ 4097 * 8 := Int.mul_le_mul h1 s1 s0 (by omega)
  unfold capI
  refine ⟨a, by omega, ?_, ?_⟩ <;> split <;> omega
set_option maxHeartbeats 2000000 in
theorem values_ev (so : List ByteArray) (l : List Int) (f : Fu) (hl : l.length = so.length) (hz : ∀ x, 0 ≤ sizeI so l x ∧ sizeI so l x ≤ 8) (hf : f.args.length ≤ maxLen) (ro : Nat) (m : Mem) (hro : ro ≤ m.length) :
    evL Tryz.prog AnZ ro 43 [.c (sizesC so l), .c (encF f)] m = some (.c (.v (.int .i64 (valuesI so l f))), m) := by
  have hf' := hf
  rw [maxLen_eq] at hf
  have hw := fun ro m => whole_ev f hf' ro m
  refine evL_by (n := 25) (by kernel_rfl) rfl fn43 rfl rfl rfl rfl ?_
  simp only [go_sem, ↓reduceIte]
  generalize hL : loopW _ _ = L
  obtain ⟨⟨i, n⟩, ⟨h1, h2, h3, h4⟩, hE, rfl⟩ := loopW_at hL (fun p : Nat × Int => [(11, .c (.v (.int .i64 p.1))), (5, .c (.v (.int .i64 p.2)))]) (fun _ => [] :: m) (fun p => p.1 ≤ f.args.length ∧ 0 ≤ p.2 ∧ p.2 ≤ 4097 ∧ valN so l 1 f.args = valN so l p.2 (f.args.drop p.1)) (fun p => p.1 = f.args.length) (fun p => f.args.length - p.1) (0, 1) rfl rfl ⟨by omega, by decide, by decide, by simp⟩ (by
    rintro ⟨i, n⟩ ⟨h1, h2, h3, h4⟩ hE
    dsimp only at h1 h2 h3 h4 hE
    obtain ⟨x, hx⟩ : ∃ x, f.args[i]? = some x := ⟨_, List.getElem?_eq_getElem (by omega)⟩
    have c1 : decide ((i : Int) < (f.args.length : Int)) = true := dec_t (by omega)
    have c3 : IntKind.i64.wrap ((i : Int) + 1) = ((i + 1 : Nat) : Int) := wrap64 (by omega) (by omega)
    have bd := capI_bd h2 h3 (hz x).1 (hz x).2
    refine ⟨(i + 1, capI (n * sizeI so l x)), ⟨by omega, bd.2.2.1, bd.2.2.2, ?_⟩, by omega, ?_⟩
    · rw [h4]
      dsimp only
      rw [show f.args.drop i = x :: f.args.drop (i + 1) from by
        obtain ⟨hi, rfl⟩ := List.getElem?_eq_some_iff.1 hx
        exact List.drop_eq_getElem_cons hi]
      rfl
    rw [round_go]
    have c4 : IntKind.i64.wrap (n * sizeI so l x) = n * sizeI so l x := wrap64 (by omega) (by omega)
    have c5 : (if (4097 : Int) < n * sizeI so l x then (4097 : Int) else n * sizeI so l x) = capI (n * sizeI so l x) := rfl
    rcases find_sizes so l hl x with h | ⟨h, h0⟩
    · simp only [go_sem, ↓reduceIte, c1, c3, hx, h, c4, minmax, c5]
    · rw [h0] at c4 c5 ⊢
      simp only [go_sem, ↓reduceIte, c1, c3, hx, h, c4, minmax, c5])
  clear hL
  dsimp only at h1 h2 h3 h4 hE
  subst hE
  rw [List.drop_length, valN] at h4
  rw [loopW_go]
  have c1 : decide ((f.args.length : Int) < (f.args.length : Int)) = false := dec_f (by omega)
  unfold valuesI
  cases hb : wholeB f with
  | true => rw [hb] at hw; simp only [go_sem, ↓reduceIte, c1, hw, hro]
  | false => rw [hb] at hw; rw [h4]; simp only [go_sem, ↓reduceIte, c1, hw, hro, Bool.false_eq_true]
end Go.Eng
