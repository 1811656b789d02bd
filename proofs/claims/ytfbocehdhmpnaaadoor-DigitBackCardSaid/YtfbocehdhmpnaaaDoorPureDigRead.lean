/-
  The number whose digits a text is: the program's function and the reference's tell the same, or why there is none.
-/
import Derived.Test.YtfbocehdhmpnaaaDoorPureDigText
import Derived.Sort.Walk0
import Derived.Test.YtfbocehdhmpnaaaDoorPrint1
import Derived.Test.YtfbocehdhmpnaaaDoorPrint3
import Derived.Test.YtfbocehdhmpnaaaDoorPrint5
import Derived.Test.YtfbocehdhmpnaaaDoorPrint6
namespace Go.Proofs.YtfbocehdhmpnaaaDoor.Pure
set_option linter.unusedVariables false
set_option linter.unusedSimpArgs false
open Go.RowKit Go.Lib Go.Proofs.YtfbocehdhmpnaaaDoor.Print Go.Proofs.YtfbocehdhmpnaaaDoor.Spec Go.Proofs.YtfbocehdhmpnaaaDoor.Aux Go.Proofs.YtfbocehdhmpnaaaDoorW.PrintWords Go.Proofs.YtfbocehdhmpnaaaDoorW.PrintLast Go.Proofs.YtfbocehdhmpnaaaDoorW.PrintMore

theorem bt_nat (s : ByteArray) (i : Nat) (h : i < s.data.toList.length) : bt s (i : Int) = (s.data.toList[i].toNat : Int) := by
  have hz := size_list s
  unfold bt
  rw [dif_pos (by omega)]; rfl
theorem extract_data (s : ByteArray) (i : Nat) (h : i ≤ s.size) : (s.extract i s.size).data.toList = s.data.toList.drop i := by
  have hz := size_list s
  rw [ByteArray.data_extract, Array.toList_extract, List.extract_eq_take_drop, List.take_of_length_le]
  rw [List.length_drop]; omega
theorem extract_head (s : ByteArray) (i : Nat) (h : i ≤ s.size) : (s.extract 0 i).data.toList = s.data.toList.take i := by
  rw [ByteArray.data_extract, Array.toList_extract, List.extract_eq_take_drop, List.drop_zero, Nat.sub_zero]
theorem isDig_iff (c : UInt8) : isDig c = true ↔ 48 ≤ (c.toNat : Int) ∧ (c.toNat : Int) ≤ 57 := by
  simp [isDig]; omega
/-- What stands behind a run of digits. -/
def canonEnd (s : List UInt8) : Bool := !s.isEmpty && (s.head? != some 48 || decide (s.length = 1))
theorem canon_end (s : List UInt8) : canon s = (s.all isDig && canonEnd s) := rfl
theorem plain_end (s : ByteArray) : (if s.toList = ([] : List UInt8) then (some false) else (if 0 < (s.size : Int) then (if (bt s 0) = 48 then (some (s.toList == ([48] : List UInt8))) else (some true)) else (none))) = some (canonEnd s.data.toList) := by
  have hz := size_list s
  rw [Lib.toList_data]
  have hb := fun h => bt_nat s 0 h
  revert hz hb
  generalize s.data.toList = l
  generalize s.size = n
  generalize hbb : bt s 0 = c
  intro hz hb
  cases l with
  | nil => simp [canonEnd]
  | cons a l =>
    have h2 := hb (by simp)
    simp only [List.getElem_cons_zero, Int.ofNat_eq_natCast] at h2
    subst h2
    rw [if_neg (by simp), if_pos (by simp at hz; omega)]
    by_cases h3 : a = 48
    · subst h3
      rw [if_pos (by rfl)]
      unfold canonEnd
      cases l <;> simp
    · have h4 : ¬ ((a.toNat : Int) = 48) := by
        intro h
        apply h3
        have : a.toNat = 48 := by omega
        rw [← UInt8.toNat_inj, this]; rfl
      rw [if_neg h4]
      simp [canonEnd, h3]
theorem plain_loop (s : ByteArray) (hs : s.size ≤ maxLen) : ∀ (d i : Nat), i + d = s.size → Ev (fun k => digit_plain.l0 k s i) ((s.data.toList.drop i).all isDig && canonEnd s.data.toList)
  | 0, i, h => by
    have hz := size_list s
    refine Ev.step (f := fun _ => some (canonEnd s.data.toList)) (fun k => ?_) (Ev.some_ ?_)
    · simp only [digit_plain.l0]; rw [if_neg (by omega)]; exact plain_end s
    · rw [List.drop_eq_nil_of_le (by omega)]; rfl
  | d + 1, i, h => by
    have hz := size_list s
    unfold maxLen at hs
    have ih := plain_loop s hs d (i + 1) (by omega)
    rw [List.drop_eq_getElem_cons (show i < s.data.toList.length by omega), List.all_cons]
    have hb := bt_nat s i (by omega)
    refine Ev.step (f := fun k => if bt s i < 48 then some false else if bt s i > 57 then some false else digit_plain.l0 k s ((i + 1 : Nat) : Int)) (fun k => ?_) ?_
    · simp only [digit_plain.l0]
      rw [if_pos (by omega), if_pos (by omega), wrap_succ i (by omega)]
    · rw [hb]
      by_cases e : isDig (s.data.toList[i]'(by omega)) = true
      · have e2 := (isDig_iff _).1 e
        exact Ev.neg (by omega) (Ev.neg (by omega) (Ev.get ih (by rw [e, Bool.true_and])))
      · have e3 : isDig (s.data.toList[i]'(by omega)) = false := by simpa using e
        rw [isDig_iff] at e
        rw [e3]
        by_cases e1 : ((s.data.toList[i]'(by omega)).toNat : Int) < 48
        · exact Ev.pos e1 (Ev.now _)
        · exact Ev.neg e1 (Ev.pos (by omega) (Ev.now _))
theorem plain_ev (s : ByteArray) (hs : s.size ≤ maxLen) : Ev (fun k => digit_plain.f k s) (canon s.data.toList) := plain_loop s hs s.size 0 (by omega)
theorem refDigits_end (s : ByteArray) : (if (s.size : Int) > 0 then (if 0 < (s.size : Int) then (if (bt s 0) = 48 then (some (s.toList == ([48] : List UInt8))) else (some true)) else (none)) else (some false)) = some (canonEnd s.data.toList) := by
  have hz := size_list s
  rw [← plain_end s, Lib.toList_data]
  by_cases h : s.data.toList = []
  · rw [if_pos h, if_neg (by rw [h] at hz; simp at hz; omega)]
  · have := List.length_pos_iff.2 h
    rw [if_neg h, if_pos (by omega)]
theorem refDigits_loop (s : ByteArray) (hs : s.size ≤ maxLen) : ∀ (d i : Nat), i + d = s.size → Ev (fun k => sequiturref02_digits.l0 k s i) ((s.data.toList.drop i).all isDig && canonEnd s.data.toList)
  | 0, i, h => by
    have hz := size_list s
    refine Ev.step (f := fun _ => some (canonEnd s.data.toList)) (fun k => ?_) (Ev.some_ ?_)
    · simp only [sequiturref02_digits.l0]; rw [if_neg (by omega)]; exact refDigits_end s
    · rw [List.drop_eq_nil_of_le (by omega)]; rfl
  | d + 1, i, h => by
    have hz := size_list s
    unfold maxLen at hs
    have ih := refDigits_loop s hs d (i + 1) (by omega)
    rw [List.drop_eq_getElem_cons (show i < s.data.toList.length by omega), List.all_cons]
    have hb := bt_nat s i (by omega)
    refine Ev.step (f := fun k => if bt s i < 48 then some false else if bt s i > 57 then some false else sequiturref02_digits.l0 k s ((i + 1 : Nat) : Int)) (fun k => ?_) ?_
    · simp only [sequiturref02_digits.l0]
      rw [if_pos (by omega), if_pos (by omega), wrap_succ i (by omega)]
    · rw [hb]
      by_cases e : isDig (s.data.toList[i]'(by omega)) = true
      · have e2 := (isDig_iff _).1 e
        exact Ev.neg (by omega) (Ev.neg (by omega) (Ev.get ih (by rw [e, Bool.true_and])))
      · have e3 : isDig (s.data.toList[i]'(by omega)) = false := by simpa using e
        rw [isDig_iff] at e
        rw [e3]
        by_cases e1 : ((s.data.toList[i]'(by omega)).toNat : Int) < 48
        · exact Ev.pos e1 (Ev.now _)
        · exact Ev.neg e1 (Ev.pos (by omega) (Ev.now _))
theorem refDigits_ev (s : ByteArray) (hs : s.size ≤ maxLen) : Ev (fun k => sequiturref02_digits.f k s) (canon s.data.toList) := refDigits_loop s hs s.size 0 (by omega)
/-! ### the program's Read -/
theorem cut_data (s : ByteArray) : (digit_Read.cut s).data.toList = if s.data.toList.head? = some 45 then s.data.toList.tail else s.data.toList := by
  have hz := size_list s
  unfold digit_Read.cut
  by_cases h : 0 < s.size
  · have hb := bt_nat s 0 (by omega)
    obtain ⟨c, l, hcl⟩ : ∃ c l, s.data.toList = c :: l := List.exists_cons_of_length_pos (by omega)
    have hb2 : bt s 0 = (c.toNat : Int) := by
      rw [show (0 : Int) = ((0 : Nat) : Int) from rfl, hb]
      congr 2
      simp [hcl]
    by_cases h3 : c = 45
    · subst h3
      rw [if_pos ⟨h, hb2⟩, extract_data s 1 (by omega), hcl, if_pos (by rfl)]; rfl
    · have h4 : ¬ ((c.toNat : Int) = 45) := by
        intro h
        apply h3
        have : c.toNat = 45 := by omega
        rw [← UInt8.toNat_inj, this]; rfl
      rw [if_neg (by rw [hb2]; exact fun h => h4 h.2), hcl, if_neg (by simpa using h3)]
  · have : s.data.toList = [] := List.eq_nil_of_length_eq_zero (by omega)
    rw [if_neg (fun h' => h h'.1), this]; rfl
theorem cut_size (s : ByteArray) : (digit_Read.cut s).size ≤ s.size := by
  have h := cut_data s
  have h1 := size_list s
  have h2 := size_list (digit_Read.cut s)
  rw [h] at h2
  split at h2
  · rw [List.length_tail] at h2; omega
  · omega
theorem read_ev (s : ByteArray) (hs : s.size ≤ 140737488351232) : Ev (fun k => digit_Read.f k s) (readS s.data.toList) := by
  unfold digit_Read.f
  have hc := cut_data s
  have hcs := cut_size s
  refine Ev.pos (by omega) (Ev.bind (plain_ev _ (by unfold maxLen; omega)) ?_)
  rw [hc, Lib.toList_data]
  unfold digit_Read.num
  generalize s.data.toList = l
  by_cases h45 : l.head? = some 45
  · rw [if_pos h45]
    by_cases h1 : canon l.tail = true
    · refine Ev.pos h1 ?_
      by_cases h2 : l = [45, 48]
      · refine Ev.pos h2 (Ev.some_ ?_)
        rw [h2]; rfl
      · refine Ev.neg h2 (Ev.some_ ?_)
        have := parse_readS l (by rw [if_pos h45]; exact h1) h2
        rw [← this]
        cases Lib.parseIntB 64 l <;> rfl
    · refine Ev.neg h1 (Ev.some_ ?_)
      unfold readS
      rw [if_pos h45, if_neg (fun h => h1 h.1)]
  · rw [if_neg h45]
    have h2 : l ≠ [45, 48] := by rintro rfl; exact h45 rfl
    by_cases h1 : canon l = true
    · refine Ev.pos h1 (Ev.neg h2 (Ev.some_ ?_))
      have := parse_readS l (by rw [if_neg h45]; exact h1) h2
      rw [← this]
      cases Lib.parseIntB 64 l <;> rfl
    · refine Ev.neg h1 (Ev.some_ ?_)
      unfold readS
      rw [if_neg h45, if_neg h1]
/-! ### the reference's Read -/
theorem less_f (a b : ByteArray) (ha : canon a.data.toList = true) (hb : canon b.data.toList = true) : sequiturref02_less.f a b = some (decide (val a.data.toList < val b.data.toList)) := by
  have h1 := size_list a
  have h2 := size_list b
  unfold sequiturref02_less.f
  by_cases h : a.size = b.size
  · rw [if_pos (by omega), Lib.toList_data, Lib.toList_data, less_same _ _ (by omega) (canon_all ha).1 (canon_all hb).1]
  · rw [if_neg (by omega)]
    congr 1
    rw [decide_eq_decide]
    by_cases hl : a.size < b.size
    · have := less_len _ _ ha hb (by omega)
      constructor
      · intro _; exact this
      · intro _; omega
    · have := less_len _ _ hb ha (by omega)
      constructor
      · intro _; omega
      · intro _; omega
theorem refRead_loop (s : ByteArray) (hs : s.size ≤ maxLen) (neg : Bool) : ∀ (d i a : Nat), i + d = s.size → (s.data.toList.drop i).all isDig = true → valFrom a (s.data.toList.drop i) ≤ (if neg then 9223372036854775808 else 9223372036854775807) →
    Ev (fun k => sequiturref02_Read.l0 k neg s (if neg then -(a : Int) else a) i) (if neg then -(valFrom a (s.data.toList.drop i) : Int) else (valFrom a (s.data.toList.drop i) : Int), 0)
  | 0, i, a, h, hd, hv => by
    have hz := size_list s
    refine Ev.step (f := fun _ => some (if neg then -(a : Int) else a, 0)) (fun k => ?_) (Ev.some_ ?_)
    · simp only [sequiturref02_Read.l0]; rw [if_neg (by omega)]
    · rw [List.drop_eq_nil_of_le (by omega)]; rfl
  | d + 1, i, a, h, hd, hv => by
    have hz := size_list s
    unfold maxLen at hs
    have hb := bt_nat s i (by omega)
    rw [List.drop_eq_getElem_cons (show i < s.data.toList.length by omega)] at hd hv ⊢
    rw [List.all_cons, Bool.and_eq_true] at hd
    have hc := (isDig_iff _).1 hd.1
    generalize s.data.toList[i]'(by omega) = c at hb hd hv hc ⊢
    have hvc : valFrom a (c :: s.data.toList.drop (i + 1)) = valFrom (a * 10 + (c.toNat - 48)) (s.data.toList.drop (i + 1)) := rfl
    rw [hvc] at hv ⊢
    have ih := refRead_loop s hs neg d (i + 1) (a * 10 + (c.toNat - 48)) (by omega) hd.2 hv
    have hle := valFrom_le (s.data.toList.drop (i + 1)) (a * 10 + (c.toNat - 48))
    generalize valFrom (a * 10 + (c.toNat - 48)) (s.data.toList.drop (i + 1)) = V at hv hle ih ⊢
    refine Ev.step (fun k => ?_) ih
    simp only [sequiturref02_Read.l0]
    rw [if_pos (by omega), if_pos (by omega), wrap_succ i (by omega), hb]
    cases neg
    · simp only [Bool.false_eq_true, if_false] at hv ⊢
      rw [wrap_in (10 * (a : Int)) (by omega) (by omega), Int.emod_eq_of_lt (by omega) (by omega), wrap_in _ (by omega) (by omega)]
      congr 1
      omega
    · simp only [if_true] at hv ⊢
      rw [wrap_in (10 * -(a : Int)) (by omega) (by omega), Int.emod_eq_of_lt (by omega) (by omega), wrap_in _ (by omega) (by omega)]
      congr 1
      omega
def most807 : ByteArray := ⟨#[57, 50, 50, 51, 51, 55, 50, 48, 51, 54, 56, 53, 52, 55, 55, 53, 56, 48, 55]⟩
def most808 : ByteArray := ⟨#[57, 50, 50, 51, 51, 55, 50, 48, 51, 54, 56, 53, 52, 55, 55, 53, 56, 48, 56]⟩
theorem canon807 : canon most807.data.toList = true := by decide +kernel
theorem canon808 : canon most808.data.toList = true := by decide +kernel
theorem val807 : val most807.data.toList = 9223372036854775807 := by decide +kernel
theorem val808 : val most808.data.toList = 9223372036854775808 := by decide +kernel
/-- What the reference does behind the sign. -/
theorem refRead_j1 (t : ByteArray) (ht : t.size ≤ maxLen) (neg : Bool) : Ev (fun k => sequiturref02_Read.j1 k neg t)
    (if canon t.data.toList = true ∧ (neg = true → t.data.toList ≠ [48]) then
      (if val t.data.toList ≤ (if neg then 9223372036854775808 else 9223372036854775807) then (if neg then -(val t.data.toList : Int) else (val t.data.toList : Int), 0) else (0, 5)) else (0, 7)) := by
  have h7 : Ev (fun k => sequiturref02_Read.j2 k neg t true) ((0, 7) : Int × Int) := Ev.step (f := fun _ => some (0, 7)) (fun k => by simp only [sequiturref02_Read.j2, if_true]) (Ev.now _)
  refine Ev.step (f := fun k => (sequiturref02_digits.f k t).bind fun u => if u = true then (if neg = true then sequiturref02_Read.j2 k neg t (t.toList == ([48] : List UInt8)) else sequiturref02_Read.j2 k neg t false) else sequiturref02_Read.j2 k neg t true) (fun k => by simp only [sequiturref02_Read.j1]) ?_
  refine Ev.bind (refDigits_ev t ht) ?_
  by_cases hc : canon t.data.toList = true
  · refine Ev.pos hc ?_
    have hd := (canon_all hc).1
    have h5 : Ev (fun k => sequiturref02_Read.j3 k neg t true) ((0, 5) : Int × Int) := Ev.step (f := fun _ => some (0, 5)) (fun k => by simp only [sequiturref02_Read.j3, if_true]) (Ev.now _)
    have hl : val t.data.toList ≤ (if neg then 9223372036854775808 else 9223372036854775807) → Ev (fun k => sequiturref02_Read.j3 k neg t false) (if neg then -(val t.data.toList : Int) else (val t.data.toList : Int), 0) := by
      intro hv
      refine Ev.step (f := fun k => sequiturref02_Read.l0 k neg t 0 0) (fun k => by simp only [sequiturref02_Read.j3, Bool.false_eq_true, if_false]) ?_
      have := refRead_loop t ht neg t.size 0 0 (by omega) (by simpa using hd) (by rw [List.drop_zero]; exact hv)
      rw [List.drop_zero] at this
      have e : (if neg then -((0 : Nat) : Int) else ((0 : Nat) : Int)) = 0 := by cases neg <;> rfl
      rw [e] at this
      exact this
    have hj2 : (neg = true → t.data.toList ≠ [48]) → Ev (fun k => sequiturref02_Read.j2 k neg t false) (if val t.data.toList ≤ (if neg then 9223372036854775808 else 9223372036854775807) then (if neg then -(val t.data.toList : Int) else (val t.data.toList : Int), 0) else (0, 5)) := by
      intro _
      cases neg
      · have hf := less_f most807 t canon807 hc
        rw [val807] at hf
        simp only [Bool.false_eq_true, if_false] at hl ⊢
        refine Ev.step (f := fun k => (sequiturref02_less.f most807 t).bind fun b => if b = true then sequiturref02_Read.j3 k false t true else sequiturref02_Read.j3 k false t false) (fun k => by simp only [sequiturref02_Read.j2, Bool.false_eq_true, if_false]; rfl) ?_
        rw [hf]
        simp only [Option.bind_some]
        by_cases hv : val t.data.toList ≤ 9223372036854775807
        · rw [if_pos hv]; exact Ev.neg (by simpa using hv) (hl hv)
        · rw [if_neg hv]; exact Ev.pos (by simpa using hv) h5
      · have hf := less_f most808 t canon808 hc
        rw [val808] at hf
        simp only [if_true] at hl ⊢
        refine Ev.step (f := fun k => (sequiturref02_less.f most808 t).bind fun b => sequiturref02_Read.j3 k true t b) (fun k => by simp only [sequiturref02_Read.j2, Bool.false_eq_true, if_false, if_true]; rfl) ?_
        rw [hf]
        simp only [Option.bind_some]
        by_cases hv : val t.data.toList ≤ 9223372036854775808
        · rw [if_pos hv, decide_eq_false (by omega)]; exact hl hv
        · rw [if_neg hv, decide_eq_true (by omega)]; exact h5
    cases neg
    · simp only [Bool.false_eq_true, if_false, false_imp_iff, and_true, if_pos hc] at hj2 ⊢
      exact hj2 trivial
    · simp only [if_true, hc, true_and, true_imp_iff, Lib.toList_data] at hj2 ⊢
      by_cases h0 : t.data.toList = [48]
      · rw [if_neg (fun h => h h0), h0]
        exact h7
      · rw [if_pos h0]
        have : (t.data.toList == ([48] : List UInt8)) = false := by simpa using h0
        rw [this]
        exact hj2 h0
  · rw [if_neg (fun h => hc h.1)]
    exact Ev.neg hc h7
theorem refRead_ev (s : ByteArray) (hs : s.size ≤ maxLen) : Ev (fun k => sequiturref02_Read.f k s) (readS s.data.toList) := by
  have hz := size_list s
  unfold maxLen at hs
  have hplain : s.data.toList.head? ≠ some 45 → Ev (fun k => sequiturref02_Read.j0 k s false) (readS s.data.toList) := by
    intro hne
    refine Ev.step (f := fun k => sequiturref02_Read.j1 k false s) (fun k => by simp only [sequiturref02_Read.j0, Bool.false_eq_true, if_false]) (Ev.get (refRead_j1 s (by unfold maxLen; omega) false) ?_)
    unfold readS
    rw [if_neg hne]
    simp only [Bool.false_eq_true, if_false, false_imp_iff, and_true]
    congr 1
    by_cases hv : val s.data.toList ≤ 9223372036854775807
    · rw [if_pos hv, if_pos (by omega)]
    · rw [if_neg hv, if_neg (by omega)]
  unfold sequiturref02_Read.f
  by_cases h : 0 < s.size
  · have hb := bt_nat s 0 (by omega)
    obtain ⟨c, l, hcl⟩ : ∃ c l, s.data.toList = c :: l := List.exists_cons_of_length_pos (by omega)
    have hb2 : bt s 0 = (c.toNat : Int) := by
      rw [show (0 : Int) = ((0 : Nat) : Int) from rfl, hb]
      congr 2
      simp [hcl]
    refine Ev.pos (by omega) (Ev.pos (by omega) ?_)
    rw [hb2]
    by_cases h3 : c = 45
    · subst h3
      refine Ev.step (f := fun k => sequiturref02_Read.j1 k true (s.extract 1 s.size)) (fun k => ?_) ?_
      · show sequiturref02_Read.j0 (k + 1) s true = _
        simp only [sequiturref02_Read.j0, if_true]
        rw [if_pos (by omega)]
      · have hx := extract_data s 1 (by omega)
        refine Ev.get (refRead_j1 (s.extract 1 s.size) (by have := size_list (s.extract 1 s.size); rw [hx, List.length_drop] at this; unfold maxLen; omega) true) ?_
        rw [hx, hcl]
        simp only [List.drop_succ_cons, List.drop_zero, if_true, true_imp_iff]
        unfold readS
        rw [if_pos (show (45 :: l : List UInt8).head? = some 45 from rfl)]
        simp only [List.tail_cons, ne_eq, List.cons.injEq, true_and]
        by_cases hq : canon l = true ∧ ¬ l = [48]
        · rw [if_pos hq, if_pos hq]
          rfl
        · rw [if_neg hq, if_neg hq]
    · have h4 : ¬ ((c.toNat : Int) = 45) := by
        intro h
        apply h3
        have : c.toNat = 45 := by omega
        rw [← UInt8.toNat_inj, this]; rfl
      have h5 : ((c.toNat : Int) == 45) = false := by simpa using h4
      rw [h5]
      exact hplain (by rw [hcl]; simpa using h3)
  · refine Ev.neg (by omega) (hplain ?_)
    rw [List.eq_nil_of_length_eq_zero (l := s.data.toList) (by omega)]; simp
/-! ### Nat -/
def natS (s : List UInt8) (most : Int) : Int × Int := if (readS s).2 = 0 then (if (readS s).1 < 0 then (0, 5) else if (readS s).1 > most then (0, 5) else ((readS s).1, 0)) else (0, (readS s).2)
theorem nat_ev (s : ByteArray) (most : Int) (hs : s.size ≤ 140737488351232) : Ev (fun k => digit_Nat.f k s most) (natS s.data.toList most) := by
  unfold digit_Nat.f natS
  refine Ev.bind (read_ev s hs) (Ev.congr (fun k => ?_) (Ev.now _))
  by_cases h : (readS s.data.toList).2 = 0
  · by_cases h1 : (readS s.data.toList).1 < 0
    · simp [h, h1]
    · by_cases h2 : (readS s.data.toList).1 > most
      · simp [h, h1, h2]
      · simp [h, h1, h2]
  · simp [h]
end Go.Proofs.YtfbocehdhmpnaaaDoor.Pure
