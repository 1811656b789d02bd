-- own work: an evaluator of the program's code, and what it answers
import Derived.Test.YtdmoipccmbimhaaGreatDoorZA
import Derived.Test.YtdmoipccmbimhaaGreatDoorS2
/- Whether a world is one of a signature: the reference. -/
set_option maxRecDepth 100000
set_option linter.unusedVariables false
set_option linter.unusedSimpArgs false
namespace Go.Eng
open Go Go.Proofs
set_option maxHeartbeats 1000000 in
theorem rsize_ev (s : Sg) (w : Wd) (x : ByteArray) (hs : s.sorts.length ≤ maxLen) (hl : w.sizes.length = s.sorts.length) (ro : Nat) (m : Mem) :
    evL Tryz.prog AnZ ro 48 [.c (encS s), .c (encW w), .c (.v (.string x))] m = some (.c (.v (.int .i64 (sizeI s.sorts w.sizes x))), m) := by
  rw [maxLen_eq] at hs
  refine evL_by (n := 29) (by kernel_rfl) rfl fn48 rfl rfl rfl rfl ?_
  unfold sizeI
  cases hb : beqS x sBool with
  | true => simp only [go_sem, ↓reduceIte, hb]
  | false =>
    simp only [go_sem, ↓reduceIte, hb, Bool.false_eq_true]
    generalize hL : loopW _ _ = L
    have hle := idx_le (isS x) s.sorts
    obtain ⟨i, h1, hE, rfl⟩ := loopW_at hL (fun i : Nat => [(7, .c (.v (.int .i64 i)))]) (fun _ => [] :: m) (fun i => i ≤ idx (isS x) s.sorts) (fun i => i = idx (isS x) s.sorts) (fun i => s.sorts.length - i) 0 rfl rfl (by omega) (by
      rintro i h1 hE
      obtain ⟨y, hy⟩ : ∃ y, s.sorts[i]? = some y := ⟨_, List.getElem?_eq_getElem (by omega)⟩
      have c1 : decide ((i : Int) < (s.sorts.length : Int)) = true := dec_t (by omega)
      have c3 : IntKind.i64.wrap ((i : Int) + 1) = ((i + 1 : Nat) : Int) := wrap64 (by omega) (by omega)
      have c2 := idx_not (isS x) s.sorts i y (by omega) hy
      unfold isS at c2
      refine ⟨i + 1, by omega, by omega, ?_⟩
      rw [round_go]
      simp only [go_sem, ↓reduceIte, c1, c2, c3, hy])
    clear hL
    rw [← hE]
    rw [loopW_go]
    by_cases hi : i < s.sorts.length
    · obtain ⟨y, hy⟩ : ∃ y, s.sorts[i]? = some y := ⟨_, List.getElem?_eq_getElem hi⟩
      obtain ⟨z, hz⟩ : ∃ z, w.sizes[i]? = some z := ⟨_, List.getElem?_eq_getElem (by omega)⟩
      have c1 : decide ((i : Int) < (s.sorts.length : Int)) = true := dec_t (by omega)
      have c2 := idx_is (isS x) s.sorts y (by rw [← hE]; exact hy)
      unfold isS at c2
      have e : w.sizes.getD i 0 = z := by rw [List.getD, hz]; rfl
      rw [e]
      simp only [go_sem, ↓reduceIte, c1, c2, hy, hz]
    · have c1 : decide ((i : Int) < (s.sorts.length : Int)) = false := dec_f (by omega)
      have e : w.sizes.getD i 0 = 0 := by rw [List.getD, List.getElem?_eq_none (by omega)]; rfl
      rw [e]
      simp only [go_sem, ↓reduceIte, c1]
set_option maxHeartbeats 1000000 in
theorem rints_ev (f : Fu) (hf : f.args.length ≤ maxLen) (ro : Nat) (m : Mem) :
    evL Tryz.prog AnZ ro 73 [.c (encF f)] m = some (.c (.v (.bool (wholeB f))), m) := by
  rw [maxLen_eq] at hf
  have hw : wholeB f = (decide (idx (isS sInt) f.args < f.args.length) || beqS f.res sInt) := by rw [idx_any]; unfold wholeB; rw [Bool.or_comm]
  rw [hw]
  refine evL_by (n := 20) (by kernel_rfl) rfl fn73 rfl rfl rfl rfl ?_
  simp only [go_sem, ↓reduceIte]
  generalize hL : loopW _ _ = L
  have hle := idx_le (isS sInt) f.args
  obtain ⟨i, h1, hE, rfl⟩ := loopW_at hL (fun i : Nat => [(3, .c (.v (.int .i64 i)))]) (fun _ => [] :: m) (fun i => i ≤ idx (isS sInt) f.args) (fun i => i = idx (isS sInt) f.args) (fun i => f.args.length - i) 0 rfl rfl (by omega) (by
    rintro i h1 hE
    obtain ⟨y, hy⟩ : ∃ y, f.args[i]? = some y := ⟨_, List.getElem?_eq_getElem (by omega)⟩
    have c1 : decide ((i : Int) < (f.args.length : Int)) = true := dec_t (by omega)
    have c3 : IntKind.i64.wrap ((i : Int) + 1) = ((i + 1 : Nat) : Int) := wrap64 (by omega) (by omega)
    have c2 := idx_not (isS sInt) f.args i y (by omega) hy
    unfold isS at c2
    refine ⟨i + 1, by omega, by omega, ?_⟩
    rw [round_go]
    simp only [go_sem, ↓reduceIte, c1, c2, c3, hy])
  clear hL
  rw [loopW_go, ← hE]
  by_cases hi : i < f.args.length
  · obtain ⟨y, hy⟩ : ∃ y, f.args[i]? = some y := ⟨_, List.getElem?_eq_getElem hi⟩
    have c1 : decide ((i : Int) < (f.args.length : Int)) = true := dec_t (by omega)
    have c2 := idx_is (isS sInt) f.args y (by rw [← hE]; exact hy)
    unfold isS at c2
    rw [dec_t hi]
    simp only [go_sem, ↓reduceIte, c1, c2, hy, Bool.true_or]
  · have c1 : decide ((i : Int) < (f.args.length : Int)) = false := dec_f (by omega)
    rw [dec_f hi]
    simp only [go_sem, ↓reduceIte, c1, Bool.false_or]
def lenGo (so : List ByteArray) (l : List Int) : Int → List ByteArray → Int
  | n, [] => n
  | n, a :: r => if n ≤ 4096 then lenGo so l (n * sizeI so l a) r else n
def lengthI (so : List ByteArray) (l : List Int) (f : Fu) : Int := if wholeB f = true then 0 else lenGo so l 1 f.args
set_option maxHeartbeats 2000000 in
theorem rlength_ev (s : Sg) (w : Wd) (f : Fu) (hs : s.sorts.length ≤ maxLen) (hl : w.sizes.length = s.sorts.length) (hz : ∀ x, 0 ≤ sizeI s.sorts w.sizes x ∧ sizeI s.sorts w.sizes x ≤ 8) (hf : f.args.length ≤ maxLen) (ro : Nat) (m : Mem) (hro : ro ≤ m.length) :
    evL Tryz.prog AnZ ro 47 [.c (encS s), .c (encW w), .c (encF f)] m = some (.c (.v (.int .i64 (lengthI s.sorts w.sizes f))), m) := by
  have hw := fun ro m => rints_ev f hf ro m
  have hsz := fun x ro m => rsize_ev s w x hs hl ro m
  rw [maxLen_eq] at hf
  have hro1 : ro ≤ m.length + 1 := by omega
  refine evL_by (n := 33) (by kernel_rfl) rfl fn47 rfl rfl rfl rfl ?_
  unfold lengthI
  cases hb : wholeB f with
  | true => rw [hb] at hw; simp only [go_sem, ↓reduceIte, hw, hro]
  | false =>
    rw [hb] at hw
    simp only [go_sem, ↓reduceIte, hw, hro, Bool.false_eq_true]
    generalize hL : loopW _ _ = L
    obtain ⟨⟨i, n⟩, ⟨h1, h2, h3, h4⟩, hE, rfl⟩ := loopW_at hL (fun p : Nat × Int => [(8, .c (.v (.int .i64 p.1))), (7, .c (.v (.int .i64 p.2)))]) (fun _ => [] :: m) (fun p => p.1 ≤ f.args.length ∧ 0 ≤ p.2 ∧ p.2 ≤ 32768 ∧ lenGo s.sorts w.sizes 1 f.args = lenGo s.sorts w.sizes p.2 (f.args.drop p.1)) (fun p => p.1 = f.args.length ∨ 4096 < p.2) (fun p => f.args.length - p.1) (0, 1) rfl rfl ⟨by omega, by decide, by decide, by simp⟩ (by
      rintro ⟨i, n⟩ ⟨h1, h2, h3, h4⟩ hE
      dsimp only at h1 h2 h3 h4 hE
      obtain ⟨x, hx⟩ : ∃ x, f.args[i]? = some x := ⟨_, List.getElem?_eq_getElem (by omega)⟩
      have c1 : decide ((i : Int) < (f.args.length : Int)) = true := dec_t (by omega)
      have c2 : decide (n ≤ 4096) = true := dec_t (by omega)
      have c3 : IntKind.i64.wrap ((i : Int) + 1) = ((i + 1 : Nat) : Int) := wrap64 (by omega) (by omega)
      have bd := capI_bd (n := n) h2 (by omega) (hz x).1 (hz x).2
      have bd2 : n * sizeI s.sorts w.sizes x ≤ 4096 * 8 := Int.mul_le_mul (by omega) (hz x).2 (hz x).1 (by omega)
      refine ⟨(i + 1, n * sizeI s.sorts w.sizes x), ⟨by omega, bd.1, by omega, ?_⟩, by omega, ?_⟩
      · rw [h4]
        dsimp only
        rw [show f.args.drop i = x :: f.args.drop (i + 1) from by
          obtain ⟨hi, rfl⟩ := List.getElem?_eq_some_iff.1 hx
          exact List.drop_eq_getElem_cons hi]
        rw [lenGo, if_pos (by omega)]
      rw [round_go]
      have c4 : IntKind.i64.wrap (n * sizeI s.sorts w.sizes x) = n * sizeI s.sorts w.sizes x := wrap64 (by omega) (by omega)
      simp only [go_sem, ↓reduceIte, c1, c2, c3, hx, hsz, c4, hro, hro1])
    clear hL
    dsimp only at h1 h2 h3 h4 hE
    rw [loopW_go, h4]
    by_cases hi : i < f.args.length
    · obtain ⟨x, hx⟩ : ∃ x, f.args[i]? = some x := ⟨_, List.getElem?_eq_getElem hi⟩
      have hn : 4096 < n := by omega
      have c1 : decide ((i : Int) < (f.args.length : Int)) = true := dec_t (by omega)
      have c2 : decide (n ≤ 4096) = false := dec_f (by omega)
      rw [show f.args.drop i = x :: f.args.drop (i + 1) from by
        obtain ⟨hi, rfl⟩ := List.getElem?_eq_some_iff.1 hx
        exact List.drop_eq_getElem_cons hi]
      rw [lenGo, if_neg (by omega)]
      simp only [go_sem, ↓reduceIte, c1, c2]
    · have c1 : decide ((i : Int) < (f.args.length : Int)) = false := dec_f (by omega)
      rw [List.drop_eq_nil_of_le (by omega), lenGo]
      simp only [go_sem, ↓reduceIte, c1]
set_option maxHeartbeats 2000000 in
theorem rsizes_ev (s : Sg) (l : List Int) (hs : okS s) (hl : l.length ≤ maxLen) (ro : Nat) (m : Mem) (hro : ro ≤ m.length) :
    evL Tryz.prog AnZ ro 46 [.c (encS s), .c (.sl (l.map cI))] m = some (.c (.v (.int .i64 (sizedE s l))), m) := by
  have hro1 : ro ≤ m.length + 1 := by omega
  rw [maxLen_eq] at hl
  refine evL_by (n := 36) (by kernel_rfl) rfl fn46 rfl rfl rfl rfl ?_
  have h := fun ro m hro => upZ (rsign_ev s hs ro m hro)
  unfold sizedE
  generalize signE s = e at h
  by_cases h0 : e = 0
  · subst h0
    have cz : ((0 : Int) != 0) = false := rfl
    rw [if_neg (by simp)]
    by_cases h1 : l.length = s.sorts.length
    · have c1 : ((l.length : Int) != (s.sorts.length : Int)) = false := bneI_f (by omega)
      rw [if_neg (by simpa using h1)]
      simp only [go_sem, ↓reduceIte, h, cz, c1, hro, hro1]
      generalize hL : loopW _ _ = L
      have hle := idx_le badN l
      obtain ⟨i, h1, hE, rfl⟩ := loopW_at hL (fun i : Nat => [(6, .c (.v (.int .i64 i)))]) (fun _ => [] :: m) (fun i => i ≤ idx badN l) (fun i => i = idx badN l) (fun i => l.length - i) 0 rfl rfl (by omega) (by
        rintro i h1 hE
        obtain ⟨x, hx⟩ : ∃ x, l[i]? = some x := ⟨_, List.getElem?_eq_getElem (by omega)⟩
        have c1 : decide ((i : Int) < (l.length : Int)) = true := dec_t (by omega)
        have c3 : IntKind.i64.wrap ((i : Int) + 1) = ((i + 1 : Nat) : Int) := wrap64 (by omega) (by omega)
        have c2 := idx_not badN l i x (by omega) hx
        simp only [badN, Bool.or_eq_false_iff] at c2
        refine ⟨i + 1, by omega, by omega, ?_⟩
        rw [round_go]
        simp only [go_sem, ↓reduceIte, c1, c2.1, c2.2, c3, hx])
      clear hL
      rw [loopW_go, ← idx_any, ← hE]
      by_cases hi : i < l.length
      · obtain ⟨x, hx⟩ : ∃ x, l[i]? = some x := ⟨_, List.getElem?_eq_getElem hi⟩
        have c1 : decide ((i : Int) < (l.length : Int)) = true := dec_t (by omega)
        have c2 := idx_is badN l x (by rw [← hE]; exact hx)
        rw [dec_t hi]
        unfold badN at c2
        cases k1 : decide (x < 1) with
        | true => simp only [go_sem, ↓reduceIte, c1, hx, k1]
        | false =>
          have k2 : decide (x > 8) = true := by rw [k1] at c2; simpa using c2
          simp only [go_sem, ↓reduceIte, c1, hx, k1, k2]
      · have c1 : decide ((i : Int) < (l.length : Int)) = false := dec_f (by omega)
        rw [dec_f hi]
        simp only [go_sem, ↓reduceIte, c1, Bool.false_eq_true]
    · have c1 : ((l.length : Int) != (s.sorts.length : Int)) = true := bneI_t (by omega)
      rw [if_pos (by simpa using h1)]
      simp only [go_sem, ↓reduceIte, h, cz, c1, hro, hro1]
  · have c1 : (e != 0) = true := bneI_t h0
    rw [if_pos h0]
    simp only [go_sem, ↓reduceIte, h, c1, hro, hro1]
end Go.Eng
/- Whether a world is one of a signature: the reference's Right. -/
set_option maxRecDepth 100000
set_option linter.unusedVariables false
set_option linter.unusedSimpArgs false
namespace Go.Eng
open Go Go.Proofs
theorem valN_top (so : List ByteArray) (l : List Int) : ∀ args : List ByteArray, (∀ a ∈ args, 1 ≤ sizeI so l a) → valN so l 4097 args = 4097
  | [], _ => rfl
  | a :: r, h => by
    have ha := h a (by simp)
    have : capI (4097 * sizeI so l a) = 4097 := by unfold capI; split <;> omega
    rw [valN, this]
    exact valN_top so l r (fun b hb => h b (by simp [hb]))
theorem val_len (so : List ByteArray) (l : List Int) : ∀ (args : List ByteArray) (n : Int), (∀ a ∈ args, 1 ≤ sizeI so l a) → 1 ≤ n → n ≤ 4096 → valN so l n args = capI (lenGo so l n args)
  | [], n, _, h1, h2 => by
    have e : lenGo so l n [] = n := rfl
    rw [e, valN]
    unfold capI
    split <;> omega
  | a :: r, n, h, h1, h2 => by
    have ha := h a (by simp)
    have hr : ∀ b ∈ r, 1 ≤ sizeI so l b := fun b hb => h b (by simp [hb])
    have hn : 1 ≤ n * sizeI so l a := by
      have := Int.mul_le_mul h1 ha (by omega) (by omega : 0 ≤ n)
      omega
    rw [valN, lenGo, if_pos h2]
    generalize n * sizeI so l a = k at hn
    by_cases hk : k ≤ 4096
    · have : capI k = k := by unfold capI; rw [if_neg (by omega)]
      rw [this]
      exact val_len so l r k hr hn hk
    · have : capI k = 4097 := by unfold capI; split <;> omega
      rw [this, valN_top so l r hr]
      have : lenGo so l k r = k := by cases r with | nil => rfl | cons b r => rw [lenGo, if_neg hk]
      rw [this]
      unfold capI; split <;> omega
theorem signE_ok {s : Sg} (h : signE s = 0) : sortsE s.sorts = 0 ∧ s.funs.length ≤ 256 ∧ ∀ i f, s.funs[i]? = some f → checkE s f = 0 ∧ (s.funs.take i).any (fun g => isS f.nm g.nm) = false := by
  unfold signE at h
  have h0 : sortsE s.sorts = 0 := by
    by_cases hc : sortsE s.sorts = 0
    · exact hc
    · rw [if_pos hc] at h; exact absurd h hc
  rw [h0, if_neg (by simp)] at h
  have h1 : ¬ 256 < s.funs.length := by intro hc; rw [if_pos hc] at h; cases h
  rw [if_neg h1] at h
  refine ⟨h0, by omega, fun i f hf => ?_⟩
  have hz := fstE_zero h i (List.getElem?_eq_some_iff.1 hf).1
  simp only [funE, hf] at hz
  have k0 : checkE s f = 0 := by
    by_cases hc : checkE s f = 0
    · exact hc
    · rw [if_pos hc] at hz; exact absurd hz hc
  rw [k0, if_neg (by simp)] at hz
  refine ⟨k0, ?_⟩
  cases h : (s.funs.take i).any (fun g => isS f.nm g.nm) <;> simp [h] at hz ⊢
theorem checkE_ok {s : Sg} {f : Fu} (h : checkE s f = 0) : nameS f.nm = true ∧ f.args.length ≤ 8 ∧ f.args.all (thingS s) = true ∧ knownS s.sorts f.res = true := by
  unfold checkE at h
  have k1 : nameS f.nm = true := by cases hc : nameS f.nm <;> simp [hc] at h ⊢
  have k2 : ¬ 8 < f.args.length := by intro hc; rw [k1, if_pos hc] at h; simp at h
  have k3 : f.args.all (thingS s) = true := by rw [k1, if_neg k2] at h; cases hc : f.args.all (thingS s) <;> simp [hc] at h ⊢
  have k4 : knownS s.sorts f.res = true := by rw [k1, if_neg k2, k3] at h; cases hc : knownS s.sorts f.res <;> simp [hc] at h ⊢
  exact ⟨k1, by omega, k3, k4⟩
theorem sizeI_one {s : Sg} {l : List Int} (hl : l.length = s.sorts.length) (hb : ∀ x ∈ l, 1 ≤ x ∧ x ≤ 8) {x : ByteArray} (hk : knownS s.sorts x = true) (hi : beqS x sInt = false) : 1 ≤ sizeI s.sorts l x := by
  unfold sizeI
  split
  · omega
  · rename_i hx
    rw [knownSR] at hk
    have hx' : beqS x sBool = false := by simpa using hx
    simp only [knownR, hx', hi, Bool.false_or] at hk
    rw [← idx_any] at hk
    have := of_decide_eq_true hk
    rw [List.getD, List.getElem?_eq_getElem (show idx (isS x) s.sorts < l.length by omega)]
    exact (hb _ (List.getElem_mem _)).1
theorem args_one {s : Sg} {l : List Int} (hl : l.length = s.sorts.length) (hb : ∀ x ∈ l, 1 ≤ x ∧ x ≤ 8) {f : Fu} (h : checkE s f = 0) (hw : wholeB f = false) : ∀ a ∈ f.args, 1 ≤ sizeI s.sorts l a := by
  intro a ha
  obtain ⟨_, _, h3, _⟩ := checkE_ok h
  have h4 := List.all_eq_true.1 h3 a ha
  simp only [thingS, Bool.and_eq_true, Bool.not_eq_true'] at h4
  simp only [wholeB, Bool.or_eq_false_iff] at hw
  have := List.any_eq_false.1 hw.2 a ha
  exact sizeI_one hl hb h4.2 (by simpa [isS] using this)
theorem values_length {s : Sg} {l : List Int} (hl : l.length = s.sorts.length) (hb : ∀ x ∈ l, 1 ≤ x ∧ x ≤ 8) {f : Fu} (h : checkE s f = 0) : valuesI s.sorts l f = capI (lengthI s.sorts l f) := by
  unfold valuesI lengthI
  cases hw : wholeB f with
  | true => rfl
  | false =>
    simp only [Bool.false_eq_true, if_false]
    exact val_len _ _ _ _ (args_one hl hb h hw) (by omega) (by omega)
theorem lenGo_pos (so : List ByteArray) (l : List Int) (hz : ∀ x, 0 ≤ sizeI so l x) : ∀ (args : List ByteArray) (n : Int), 0 ≤ n → 0 ≤ lenGo so l n args
  | [], n, h => h
  | a :: r, n, h => by
    rw [lenGo]
    split
    · exact lenGo_pos so l hz r _ (Int.mul_nonneg h (hz a))
    · exact h
theorem lengthI_pos (so : List ByteArray) (l : List Int) (hz : ∀ x, 0 ≤ sizeI so l x) (f : Fu) : 0 ≤ lengthI so l f := by
  unfold lengthI
  split
  · omega
  · exact lenGo_pos so l hz _ _ (by omega)
/-- what is wrong with a table, by the reference -/
def rtabE (s : Sg) (w : Wd) (i : Nat) : Int := match s.funs[i]?, w.tables[i]? with
  | some f, some t => if 4096 < lengthI s.sorts w.sizes f then 2 else if (t.length : Int) ≠ lengthI s.sorts w.sizes f then 1 else if t.any (outB (sizeI s.sorts w.sizes f.res)) = true then 1 else 0
  | _, _ => 0
theorem fstE_congr {e e' : Nat → Int} {n : Nat} (h : ∀ i, i < n → e i = e' i) : fstE e n = fstE e' n := by
  have : fstI e n = fstI e' n := by
    unfold fstI
    suffices ∀ l : List Nat, (∀ i ∈ l, i < n) → idx (fun i => decide (e i ≠ 0)) l = idx (fun i => decide (e' i ≠ 0)) l from this _ (by simp)
    intro l
    induction l with
    | nil => intro _; rfl
    | cons a r ih =>
      intro hl
      have ha := h a (hl a (by simp))
      simp only [idx, ha, ih (fun i hi => hl i (by simp [hi]))]
  unfold fstE
  rw [this]
  split
  · rename_i hc; exact h _ hc
  · rfl
theorem rtab_tab {s : Sg} {w : Wd} (hs : okS s) (h : sizedE s w.sizes = 0) : fstE (tabE s w) s.funs.length = fstE (rtabE s w) s.funs.length := by
  obtain ⟨hp, hsg, hbd⟩ := sizedE_ok hs h
  refine fstE_congr fun i hi => ?_
  unfold tabE rtabE
  cases hf : s.funs[i]? with
  | none => rfl
  | some f =>
    cases ht : w.tables[i]? with
    | none => rfl
    | some t =>
      simp only
      rw [values_length hp.len hbd ((signE_ok hsg).2.2 i f hf).1]
      generalize lengthI s.sorts w.sizes f = n
      unfold capI
      by_cases hn : 4097 < n
      · rw [if_pos hn, if_pos (by omega), if_pos (by omega)]
      · rw [if_neg hn]
set_option maxHeartbeats 8000000 in
theorem rwright_ev (s : Sg) (w : Wd) (hs : okS s) (hw : okW w) (ro : Nat) (m : Mem) (hro : ro ≤ m.length) :
    evL Tryz.prog AnZ ro 12 [.c (encS s), .c (encW w)] m = some (.c (.v (.int .i64 (wrightE s w))), m) := by
  have hro1 : ro ≤ m.length + 1 := by omega
  refine evL_by (n := 82) (by kernel_rfl) rfl fn12 rfl rfl rfl rfl ?_
  have h := fun ro m hro => rsizes_ev s w.sizes hs hw.sizes ro m hro
  unfold wrightE
  by_cases h0 : sizedE s w.sizes = 0
  · obtain ⟨hp, hsg, hbd⟩ := sizedE_ok hs h0
    rw [rtab_tab hs h0]
    rw [h0] at h ⊢
    have cz : ((0 : Int) != 0) = false := rfl
    rw [if_neg (by simp)]
    by_cases h1 : w.tables.length = s.funs.length
    · have c1 : ((w.tables.length : Int) != (s.funs.length : Int)) = false := bneI_f (by omega)
      rw [if_neg (by simpa using h1)]
      have hl := hs.funs
      rw [maxLen_eq] at hl
      simp only [go_sem, ↓reduceIte, h, cz, c1, hro, hro1]
      generalize hL : loopW _ _ = L
      have hle := fstI_le (rtabE s w) s.funs.length
      have hva := fun f (hf : f.args.length ≤ maxLen) ro m hro => rlength_ev s w f hs.sorts hp.len (sizeI_bd hbd) hf ro m hro
      have hsz := fun x ro m => rsize_ev s w x hs.sorts hp.len ro m
      have hpos := lengthI_pos s.sorts w.sizes (fun x => (sizeI_bd hbd x).1)
      -- the loop over one table
      obtain ⟨i, k1, hE, rfl⟩ := loopW_at hL (fun i : Nat => [(6, .c (.v (.int .i64 i)))]) (fun _ => [] :: m) (fun i => i ≤ fstI (rtabE s w) s.funs.length) (fun i => i = fstI (rtabE s w) s.funs.length) (fun i => s.funs.length - i) 0 rfl rfl (by omega) (by
        rintro i k1 hE
        obtain ⟨f, hx⟩ : ∃ x, s.funs[i]? = some x := ⟨_, List.getElem?_eq_getElem (by omega)⟩
        obtain ⟨t, ht⟩ : ∃ x, w.tables[i]? = some x := ⟨_, List.getElem?_eq_getElem (by omega)⟩
        have htl := hw.each t (List.mem_of_getElem? ht)
        rw [maxLen_eq] at htl
        have c2 : decide ((i : Int) < (s.funs.length : Int)) = true := dec_t (by omega)
        have c3 : IntKind.i64.wrap ((i : Int) + 1) = ((i + 1 : Nat) : Int) := wrap64 (by omega) (by omega)
        have c4 := fstI_not (e := rtabE s w) (n := s.funs.length) (i := i) (by omega)
        simp only [rtabE, hx, ht] at c4
        have hv := hva f (hs.fun_ f (List.mem_of_getElem? hx)).args
        have hp' := hpos f
        have hz := hsz f.res
        generalize lengthI s.sorts w.sizes f = n at c4 hv hp'
        generalize sizeI s.sorts w.sizes f.res = z at c4 hz
        have k2 : ¬ 4096 < n := by intro hc; rw [if_pos hc] at c4; cases c4
        rw [if_neg k2] at c4
        have k3 : (t.length : Int) = n := by
          by_cases hc : (t.length : Int) = n
          · exact hc
          · rw [if_pos (by simpa using hc)] at c4; cases c4
        rw [if_neg (by simpa using k3)] at c4
        have k4 : t.any (outB z) = false := by cases hb : t.any (outB z) <;> simp [hb] at c4 ⊢
        subst k3
        have d2 : decide ((t.length : Int) > 4096) = false := dec_f (by omega)
        have d3 : ((t.length : Int) != (t.length : Int)) = false := bneI_f rfl
        refine ⟨i + 1, by omega, by omega, ?_⟩
        rw [round_go]
        simp only [go_sem, ↓reduceIte, c2, c3, hx, ht, hv, d2, d3, encL_def, hro, hro1]
        generalize hL2 : loopW _ _ = L2
        obtain ⟨j, j1, jE, rfl⟩ := loopW_at hL2 (fun i : Nat => [(8, .c (.v (.int .i64 i)))]) (fun _ => [] :: m) (fun j => j ≤ t.length) (fun j => j = t.length) (fun j => t.length - j) 0 rfl rfl (by omega) (by
          rintro j j1 jE
          obtain ⟨y, hy⟩ : ∃ y, t[j]? = some y := ⟨_, List.getElem?_eq_getElem (by omega)⟩
          have d4 : decide ((j : Int) < (t.length : Int)) = true := dec_t (by omega)
          have d5 : IntKind.i64.wrap ((j : Int) + 1) = ((j + 1 : Nat) : Int) := wrap64 (by omega) (by omega)
          have d6 := List.any_eq_false.1 k4 y (List.mem_of_getElem? hy)
          simp only [outB, Bool.or_eq_true, not_or, Bool.not_eq_true] at d6
          refine ⟨j + 1, by omega, by omega, ?_⟩
          rw [round_go]
          simp only [go_sem, ↓reduceIte, c2, hx, ht, hz, d4, d5, d6.1, d6.2, hy, encL_def, hro, hro1])
        clear hL2
        subst jE
        rw [loopW_go]
        have d7 : decide ((t.length : Int) < (t.length : Int)) = false := dec_f (by omega)
        simp only [go_sem, ↓reduceIte, c3, d7])
      clear hL
      rw [loopW_go]
      unfold fstE
      rw [← hE]
      by_cases hi : i < s.funs.length
      · obtain ⟨f, hx⟩ : ∃ x, s.funs[i]? = some x := ⟨_, List.getElem?_eq_getElem hi⟩
        obtain ⟨t, ht⟩ : ∃ x, w.tables[i]? = some x := ⟨_, List.getElem?_eq_getElem (by omega)⟩
        have htl := hw.each t (List.mem_of_getElem? ht)
        rw [maxLen_eq] at htl
        have c2 : decide ((i : Int) < (s.funs.length : Int)) = true := dec_t (by omega)
        have c4 := fstI_is (e := rtabE s w) (n := s.funs.length) (by omega)
        rw [← hE] at c4
        rw [if_pos hi]
        simp only [rtabE, hx, ht] at c4 ⊢
        have hv := hva f (hs.fun_ f (List.mem_of_getElem? hx)).args
        have hp' := hpos f
        have hz := hsz f.res
        generalize lengthI s.sorts w.sizes f = n at c4 hv hp' ⊢
        generalize sizeI s.sorts w.sizes f.res = z at c4 hz ⊢
        by_cases k2 : 4096 < n
        · have d2 : decide (n > 4096) = true := dec_t (by omega)
          rw [if_pos k2]
          simp only [go_sem, ↓reduceIte, c2, hx, ht, hv, d2, hro, hro1]
        · have d2 : decide (n > 4096) = false := dec_f (by omega)
          rw [if_neg k2] at c4 ⊢
          by_cases k3 : (t.length : Int) = n
          · rw [if_neg (by simpa using k3)] at c4 ⊢
            have k4 : t.any (outB z) = true := by cases hb : t.any (outB z) <;> simp [hb] at c4 ⊢
            subst k3
            rw [k4]
            have d3 : ((t.length : Int) != (t.length : Int)) = false := bneI_f rfl
            simp only [go_sem, ↓reduceIte, c2, hx, ht, hv, d2, d3, encL_def, hro, hro1]
            generalize hL2 : loopW _ _ = L2
            have hle2 := idx_le (outB z) t
            obtain ⟨j, j1, jE, rfl⟩ := loopW_at hL2 (fun i : Nat => [(8, .c (.v (.int .i64 i)))]) (fun _ => [] :: m) (fun j => j ≤ idx (outB z) t) (fun j => j = idx (outB z) t) (fun j => t.length - j) 0 rfl rfl (by omega) (by
              rintro j j1 jE
              obtain ⟨y, hy⟩ : ∃ y, t[j]? = some y := ⟨_, List.getElem?_eq_getElem (by omega)⟩
              have d4 : decide ((j : Int) < (t.length : Int)) = true := dec_t (by omega)
              have d5 : IntKind.i64.wrap ((j : Int) + 1) = ((j + 1 : Nat) : Int) := wrap64 (by omega) (by omega)
              have d6 := idx_not (outB z) t j y (by omega) hy
              simp only [outB, Bool.or_eq_false_iff] at d6
              refine ⟨j + 1, by omega, by omega, ?_⟩
              rw [round_go]
              simp only [go_sem, ↓reduceIte, c2, hx, ht, hz, d4, d5, d6.1, d6.2, hy, encL_def, hro, hro1])
            clear hL2
            rw [← idx_any] at k4
            have hj := of_decide_eq_true k4
            rw [← jE] at hj
            obtain ⟨y, hy⟩ : ∃ y, t[j]? = some y := ⟨_, List.getElem?_eq_getElem hj⟩
            have d4 : decide ((j : Int) < (t.length : Int)) = true := dec_t (by omega)
            have d6 := idx_is (outB z) t y (by rw [← jE]; exact hy)
            rw [loopW_go]
            unfold outB at d6
            cases d7 : decide (y < 0) with
            | true => simp only [go_sem, ↓reduceIte, c2, hx, ht, hz, d4, d7, hy, encL_def, hro, hro1]
            | false =>
              have d8 : decide (y ≥ z) = true := by rw [d7] at d6; simpa using d6
              simp only [go_sem, ↓reduceIte, c2, hx, ht, hz, d4, d7, d8, hy, encL_def, hro, hro1]
          · have d3 : ((t.length : Int) != n) = true := bneI_t k3
            rw [if_pos (by simpa using k3)]
            simp only [go_sem, ↓reduceIte, c2, hx, ht, hv, d2, d3, encL_def, hro, hro1]
      · have c2 : decide ((i : Int) < (s.funs.length : Int)) = false := dec_f (by omega)
        rw [if_neg hi]
        simp only [go_sem, ↓reduceIte, c2]
    · have c1 : ((w.tables.length : Int) != (s.funs.length : Int)) = true := bneI_t (by omega)
      rw [if_pos (by simpa using h1)]
      simp only [go_sem, ↓reduceIte, h, cz, c1, hro, hro1]
  · have c1 : (sizedE s w.sizes != 0) = true := bneI_t h0
    rw [if_pos h0]
    simp only [go_sem, ↓reduceIte, h, c1, hro, hro1]
end Go.Eng
