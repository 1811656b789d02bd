-- own work: an evaluator of the program's code, and what it answers
import Derived.Test.YtdmoipccmbimhaaGreatDoorZ3
import Derived.Test.YtdmoipccmbimhaaGreatDoorS2
/- Whether a world is one of a signature: the reference. -/
set_option maxRecDepth 100000
set_option linter.unusedVariables false
set_option linter.unusedSimpArgs false
namespace Go.Eng
open Go Go.Proofs
set_option maxHeartbeats 1000000 in
theorem rsize_ev (s : Sg) (w : Wd) (x : ByteArray) (hs : s.sorts.length ≤ maxLen) (hl : w.sizes.length = s.sorts.length) (ro : Nat) (m : Mem) :
    evL Tryz.prog AnZ ro 48 [.c (encS s), .c (encW w), .c (.v (.string x))] m = some (.c (.v (.int .i64 (sizeI s.sorts w.sizes x))), m) := by
  rw [maxLen_eq] at hs
  refine evL_by (n := 29) (by kernel_rfl) rfl fn48 rfl rfl rfl rfl ?_
  unfold sizeI
  cases hb : beqS x sBool with
  | true => simp only [go_sem, ↓reduceIte, hb]
  | false =>
    simp only [go_sem, ↓reduceIte, hb, Bool.false_eq_true]
    generalize hL : loopW _ _ = L
    have hle := idx_le (isS x) s.sorts
    obtain ⟨i, h1, hE, rfl⟩ := loopW_at hL (fun i : Nat => [(7, .c (.v (.int .i64 i)))]) (fun _ => [] :: m) (fun i => i ≤ idx (isS x) s.sorts) (fun i => i = idx (isS x) s.sorts) (fun i => s.sorts.length - i) 0 rfl rfl (by omega) (by
      rintro i h1 hE
      obtain ⟨y, hy⟩ : ∃ y, s.sorts[i]? = some y := ⟨_, List.getElem?_eq_getElem (by omega)⟩
      have c1 : decide ((i : Int) < (s.sorts.length : Int)) = true := dec_t (by omega)
      have c3 : IntKind.i64.wrap ((i : Int) + 1) = ((i + 1 : Nat) : Int) := wrap64 (by omega) (by omega)
      have c2 := idx_not (isS x) s.sorts i y (by omega) hy
      unfold isS at c2
      refine ⟨i + 1, by omega, by omega, ?_⟩
      rw [round_go]
      simp only [go_sem, ↓reduceIte, c1, c2, c3, hy])
    clear hL
    rw [← hE]
    rw [loopW_go]
    by_cases hi : i < s.sorts.length
    · obtain ⟨y, hy⟩ : ∃ y, s.sorts[i]? = some y := ⟨_, List.getElem?_eq_getElem hi⟩
      obtain ⟨z, hz⟩ : ∃ z, w.sizes[i]? = some z := ⟨_, List.getElem?_eq_getElem (by omega)⟩
      have c1 : decide ((i : Int) < (s.sorts.length : Int)) = true := dec_t (by omega)
      have c2 := idx_is (isS x) s.sorts y (by rw [← hE]; exact hy)
      unfold isS at c2
      have e : w.sizes.getD i 0 = z := by rw [List.getD, hz]; rfl
      rw [e]
      simp only [go_sem, ↓reduceIte, c1, c2, hy, hz]
    · have c1 : decide ((i : Int) < (s.sorts.length : Int)) = false := dec_f (by omega)
      have e : w.sizes.getD i 0 = 0 := by rw [List.getD, List.getElem?_eq_none (by omega)]; rfl
      rw [e]
      simp only [go_sem, ↓reduceIte, c1]
set_option maxHeartbeats 1000000 in
theorem rints_ev (f : Fu) (hf : f.args.length ≤ maxLen) (ro : Nat) (m : Mem) :
    evL Tryz.prog AnZ ro 73 [.c (encF f)] m = some (.c (.v (.bool (wholeB f))), m) := by
  rw [maxLen_eq] at hf
  have hw : wholeB f = (decide (idx (isS sInt) f.args < f.args.length) || beqS f.res sInt) := by rw [idx_any]; unfold wholeB; rw [Bool.or_comm]
  rw [hw]
  refine evL_by (n := 20) (by kernel_rfl) rfl fn73 rfl rfl rfl rfl ?_
  simp only [go_sem, ↓reduceIte]
  generalize hL : loopW _ _ = L
  have hle := idx_le (isS sInt) f.args
  obtain ⟨i, h1, hE, rfl⟩ := loopW_at hL (fun i : Nat => [(3, .c (.v (.int .i64 i)))]) (fun _ => [] :: m) (fun i => i ≤ idx (isS sInt) f.args) (fun i => i = idx (isS sInt) f.args) (fun i => f.args.length - i) 0 rfl rfl (by omega) (by
    rintro i h1 hE
    obtain ⟨y, hy⟩ : ∃ y, f.args[i]? = some y := ⟨_, List.getElem?_eq_getElem (by omega)⟩
    have c1 : decide ((i : Int) < (f.args.length : Int)) = true := dec_t (by omega)
    have c3 : IntKind.i64.wrap ((i : Int) + 1) = ((i + 1 : Nat) : Int) := wrap64 (by omega) (by omega)
    have c2 := idx_not (isS sInt) f.args i y (by omega) hy
    unfold isS at c2
    refine ⟨i + 1, by omega, by omega, ?_⟩
    rw [round_go]
    simp only [go_sem, ↓reduceIte, c1, c2, c3, hy])
  clear hL
  rw [loopW_go, ← hE]
  by_cases hi : i < f.args.length
  · obtain ⟨y, hy⟩ : ∃ y, f.args[i]? = some y := ⟨_, List.getElem?_eq_getElem hi⟩
    have c1 : decide ((i : Int) < (f.args.length : Int)) = true := dec_t (by omega)
    have c2 := idx_is (isS sInt) f.args y (by rw [← hE]; exact hy)
    unfold isS at c2
    rw [dec_t hi]
    simp only [go_sem, ↓reduceIte, c1, c2, hy, Bool.true_or]
  · have c1 : decide ((i : Int) < (f.args.length : Int)) = false := dec_f (by omega)
    rw [dec_f hi]
    simp only [go_sem, ↓reduceIte, c1, Bool.false_or]
def lenGo (so : List ByteArray) (l : List Int) : Int → List ByteArray → Int
  | n, [] => n
  | n, a :: r => if n ≤ 4096 then lenGo so l (n * sizeI so l a) r else n
def lengthI (so : List ByteArray) (l : List Int) (f : Fu) : Int := if wholeB f = true then 0 else lenGo so l 1 f.args
set_option maxHeartbeats 2000000 in
theorem rlength_ev (s : Sg) (w : Wd) (f : Fu) (hs : s.sorts.length ≤ maxLen) (hl : w.sizes.length = s.sorts.length) (hz : ∀ x, 0 ≤ sizeI s.sorts w.sizes x ∧ sizeI s.sorts w.sizes x ≤ 8) (hf : f.args.length ≤ maxLen) (ro : Nat) (m : Mem) (hro : ro ≤ m.length) :
    evL Tryz.prog AnZ ro 47 [.c (encS s), .c (encW w), .c (encF f)] m = some (.c (.v (.int .i64 (lengthI s.sorts w.sizes f))), m) := by
  have hw := fun ro m => rints_ev f hf ro m
  have hsz := fun x ro m => rsize_ev s w x hs hl ro m
  rw [maxLen_eq] at hf
  have hro1 : ro ≤ m.length + 1 := by omega
  refine evL_by (n := 33) (by kernel_rfl) rfl fn47 rfl rfl rfl rfl ?_
  unfold lengthI
  cases hb : wholeB f with
  | true => rw [hb] at hw; simp only [go_sem, ↓reduceIte, hw, hro]
  | false =>
    rw [hb] at hw
    simp only [go_sem, ↓reduceIte, hw, hro, Bool.false_eq_true]
    generalize hL : loopW _ _ = L
    obtain ⟨⟨i, n⟩, ⟨h1, h2, h3, h4⟩, hE, rfl⟩ := loopW_at hL (fun p : Nat × Int => [(8, .c (.v (.int .i64 p.1))), (7, .c (.v (.int .i64 p.2)))]) (fun _ => [] :: m) (fun p => p.1 ≤ f.args.length ∧ 0 ≤ p.2 ∧ p.2 ≤ 32768 ∧ lenGo s.sorts w.sizes 1 f.args = lenGo s.sorts w.sizes p.2 (f.args.drop p.1)) (fun p => p.1 = f.args.length ∨ 4096 < p.2) (fun p => f.args.length - p.1) (0, 1) rfl rfl ⟨by omega, by decide, by decide, by simp⟩ (by
      rintro ⟨i, n⟩ ⟨h1, h2, h3, h4⟩ hE
      dsimp only at h1 h2 h3 h4 hE
      obtain ⟨x, hx⟩ : ∃ x, f.args[i]? = some x := ⟨_, List.getElem?_eq_getElem (by omega)⟩
      have c1 : decide ((i : Int) < (f.args.length : Int)) = true := dec_t (by omega)
      have c2 : decide (n ≤ 4096) = true := dec_t (by omega)
      have c3 : IntKind.i64.wrap ((i : Int) + 1) = ((i + 1 : Nat) : Int) := wrap64 (by omega) (by omega)
      have bd := capI_bd (n := n) h2 (by omega) (hz x).1 (hz x).2
      have bd2 : n * sizeI s.sorts w.sizes x ≤ 4096 * 8 := Int.mul_le_mul (by omega) (hz x).2 (hz x).1 (by omega)
      refine ⟨(i + 1, n * sizeI s.sorts w.sizes x), ⟨by omega, bd.1, by omega, ?_⟩, by omega, ?_⟩
      · rw [h4]
        dsimp only
        rw [show f.args.drop i = x :: f.args.drop (i + 1) from by
          obtain ⟨hi, rfl⟩ := List.getElem?_eq_some_iff.1 hx
          exact List.drop_eq_getElem_cons hi]
        rw [lenGo, if_pos (by omega)]
      rw [round_go]
      have c4 : IntKind.i64.wrap (n * sizeI s.sorts w.sizes x) = n * sizeI s.sorts w.sizes x := wrap64 (by omega) (by omega)
      simp only [go_sem, ↓reduceIte, c1, c2, c3, hx, hsz, c4, hro, hro1])
    clear hL
    dsimp only at h1 h2 h3 h4 hE
    rw [loopW_go, h4]
    by_cases hi : i < f.args.length
    · obtain ⟨x, hx⟩ : ∃ x, f.args[i]? = some x := ⟨_, List.getElem?_eq_getElem hi⟩
      have hn : 4096 < n := by omega
      have c1 : decide ((i : Int) < (f.args.length : Int)) = true := dec_t (by omega)
      have c2 : decide (n ≤ 4096) = false := dec_f (by omega)
      rw [show f.args.drop i = x :: f.args.drop (i + 1) from by
        obtain ⟨hi, rfl⟩ := List.getElem?_eq_some_iff.1 hx
        exact List.drop_eq_getElem_cons hi]
      rw [lenGo, if_neg (by omega)]
      simp only [go_sem, ↓reduceIte, c1, c2]
    · have c1 : decide ((i : Int) < (f.args.length : Int)) = false := dec_f (by omega)
      rw [List.drop_eq_nil_of_le (by omega), lenGo]
      simp only [go_sem, ↓reduceIte, c1]
set_option maxHeartbeats 2000000 in
theorem rsizes_ev (s : Sg) (l : List Int) (hs : okS s) (hl : l.length ≤ maxLen) (ro : Nat) (m : Mem) (hro : ro ≤ m.length) :
    evL Tryz.prog AnZ ro 46 [.c (encS s), .c (.sl (l.map cI))] m = some (.c (.v (.int .i64 (sizedE s l))), m) := by
  have hro1 : ro ≤ m.length + 1 := by omega
  rw [maxLen_eq] at hl
  refine evL_by (n := 36) (by kernel_rfl) rfl fn46 rfl rfl rfl rfl ?_
  have h := fun ro m hro => upZ (rsign_ev s hs ro m hro)
  unfold sizedE
  generalize signE s = e at h
  by_cases h0 : e = 0
  · subst h0
    have cz : ((0 : Int) != 0) = false := rfl
    rw [if_neg (by simp)]
    by_cases h1 : l.length = s.sorts.length
    · have c1 : ((l.length : Int) != (s.sorts.length : Int)) = false := bneI_f (by omega)
      rw [if_neg (by simpa using h1)]
      simp only [go_sem, ↓reduceIte, h, cz, c1, hro, hro1]
      generalize hL : loopW _ _ = L
      have hle := idx_le badN l
      obtain ⟨i, h1, hE, rfl⟩ := loopW_at hL (fun i : Nat => [(6, .c (.v (.int .i64 i)))]) (fun _ => [] :: m) (fun i => i ≤ idx badN l) (fun i => i = idx badN l) (fun i => l.length - i) 0 rfl rfl (by omega) (by
        rintro i h1 hE
        obtain ⟨x, hx⟩ : ∃ x, l[i]? = some x := ⟨_, List.getElem?_eq_getElem (by omega)⟩
        have c1 : decide ((i : Int) < (l.length : Int)) = true := dec_t (by omega)
        have c3 : IntKind.i64.wrap ((i : Int) + 1) = ((i + 1 : Nat) : Int) := wrap64 (by omega) (by omega)
        have c2 := idx_not badN l i x (by omega) hx
        simp only [badN, Bool.or_eq_false_iff] at c2
        refine ⟨i + 1, by omega, by omega, ?_⟩
        rw [round_go]
        simp only [go_sem, ↓reduceIte, c1, c2.1, c2.2, c3, hx])
      clear hL
      rw [loopW_go, ← idx_any, ← hE]
      by_cases hi : i < l.length
      · obtain ⟨x, hx⟩ : ∃ x, l[i]? = some x := ⟨_, List.getElem?_eq_getElem hi⟩
        have c1 : decide ((i : Int) < (l.length : Int)) = true := dec_t (by omega)
        have c2 := idx_is badN l x (by rw [← hE]; exact hx)
        rw [dec_t hi]
        unfold badN at c2
        cases k1 : decide (x < 1) with
        | true => simp only [go_sem, ↓reduceIte, c1, hx, k1]
        | false =>
          have k2 : decide (x > 8) = true := by rw [k1] at c2; simpa using c2
          simp only [go_sem, ↓reduceIte, c1, hx, k1, k2]
      · have c1 : decide ((i : Int) < (l.length : Int)) = false := dec_f (by omega)
        rw [dec_f hi]
        simp only [go_sem, ↓reduceIte, c1, Bool.false_eq_true]
    · have c1 : ((l.length : Int) != (s.sorts.length : Int)) = true := bneI_t (by omega)
      rw [if_pos (by simpa using h1)]
      simp only [go_sem, ↓reduceIte, h, cz, c1, hro, hro1]
  · have c1 : (e != 0) = true := bneI_t h0
    rw [if_pos h0]
    simp only [go_sem, ↓reduceIte, h, c1, hro, hro1]
end Go.Eng
