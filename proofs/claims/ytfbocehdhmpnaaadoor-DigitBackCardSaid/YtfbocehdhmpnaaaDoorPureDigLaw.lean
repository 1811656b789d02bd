/-
  A text taken apart into a base and a number, and put together: the program's functions and the reference's tell the same; the chapter's examples.
-/
import Derived.Test.YtfbocehdhmpnaaaDoorPureDigRead
import Derived.Test.YtfbocehdhmpnaaaDoorPrint1
import Derived.Test.YtfbocehdhmpnaaaDoorPrint3
import Derived.Test.YtfbocehdhmpnaaaDoorPrint6
import Derived.Test.YtfbocehdhmpnaaaDoorPrint9
namespace Go.Proofs.YtfbocehdhmpnaaaDoor.Pure
set_option linter.unusedVariables false
set_option linter.unusedSimpArgs false
open Go.RowKit Go.Lib Go.Proofs.YtfbocehdhmpnaaaDoor.Print Go.Proofs.YtfbocehdhmpnaaaDoor.Spec Go.Proofs.YtfbocehdhmpnaaaDoor.Aux Go.Proofs.YtfbocehdhmpnaaaDoorW.PrintWords Go.Proofs.YtfbocehdhmpnaaaDoorW.PrintLast Go.Proofs.YtfbocehdhmpnaaaDoorW.PrintMore

theorem refText_ev (n : Int) (h0 : -9223372036854775808 ≤ n) (h1 : n ≤ 9223372036854775807) : Ev (fun k => sequiturref02_Text.f k n) (mkB (itoa n)) := by
  unfold sequiturref02_Text.f
  exact Ev.bind (baseDigits_ev n h0 h1) (Ev.now _)
theorem refNat_ev (s : ByteArray) (most : Int) (hs : s.size ≤ maxLen) : Ev (fun k => sequiturref02_Nat.f k s most) (natS s.data.toList most) := by
  unfold sequiturref02_Nat.f natS
  refine Ev.bind (refRead_ev s hs) (Ev.congr (fun k => ?_) (Ev.now _))
  by_cases h : (readS s.data.toList).2 = 0
  · by_cases h1 : (readS s.data.toList).1 < 0
    · simp [h, h1]
    · by_cases h2 : (readS s.data.toList).1 > most
      · simp [h, h1, h2]
      · simp [h, h1, h2]
  · simp [h]
/-- A base with a number behind. -/
def indexS (s : ByteArray) (n : Int) : ByteArray := if n ≤ 0 then s else s ++ mkB (itoa n)
theorem index_f (s : ByteArray) (n : Int) (hs : s.size ≤ 140737488351232) (h1 : n ≤ 9223372036854775807) : digit_Index.f s n = some (indexS s n) := by
  unfold digit_Index.f indexS
  by_cases h : n ≤ 0
  · rw [if_pos h, if_pos h]
  · have hl := itoa_len n (by omega) h1
    rw [if_neg h, if_neg h, text_f n (by omega) h1, Option.bind_some, mkB_size, if_pos (by omega)]
theorem refIndex_ev (s : ByteArray) (n : Int) (hs : s.size ≤ 140737488351232) (h1 : n ≤ 9223372036854775807) : Ev (fun k => sequiturref02_Index.f k s n) (indexS s n) := by
  unfold sequiturref02_Index.f indexS
  by_cases h : n ≤ 0
  · rw [if_pos h]; exact Ev.pos h (Ev.now _)
  · have hl := itoa_len n (by omega) h1
    rw [if_neg h]
    refine Ev.neg h (Ev.bind (refText_ev n (by omega) h1) ?_)
    rw [mkB_size]
    exact Ev.pos (by omega) (Ev.now _)
/-- Does a number from 1 to 2147483647 stand at the end, from here on? -/
def numAt (l : List UInt8) : Option Int := if (readS l).2 = 0 ∧ 1 ≤ (readS l).1 ∧ (readS l).1 ≤ 2147483647 then some (readS l).1 else none
theorem numAt_some (l : List UInt8) (n : Int) : numAt l = some n ↔ l = decDigits n.toNat ∧ 1 ≤ n ∧ n ≤ 2147483647 := by
  unfold numAt
  constructor
  · intro h
    split at h
    · rename_i hc
      injection h with h
      have h1 : readS l = (n, 0) := by rw [← h, ← hc.1]
      have h2 := (readS_iff l n).1 h1
      unfold itoa at h2
      rw [if_neg (by omega)] at h2
      exact ⟨h2.1, by omega, by omega⟩
    · cases h
  · rintro ⟨rfl, h1, h2⟩
    have h3 := (readS_iff (decDigits n.toNat) n).2 ⟨by unfold itoa; rw [if_neg (by omega)], by omega, by omega⟩
    rw [h3]
    rw [if_pos ⟨rfl, h1, h2⟩]
theorem dec_small (u : Nat) (h : u ≤ 2147483647) : (decDigits u).length ≤ 10 := by
  rw [decDigits_length]
  rcases Nat.lt_or_ge 10 (nDigits u) with h1 | h1
  · exfalso
    have h2 : ∀ (k u : Nat), k + 1 < nDigits u → 10 ^ (k + 1) ≤ u := by
      intro k
      induction k with
      | zero =>
        intro u hk
        by_cases h3 : u < 10
        · rw [nDigits_small h3] at hk; omega
        · simpa using h3
      | succ k ih =>
        intro u hk
        by_cases h3 : u < 10
        · rw [nDigits_small h3] at hk; omega
        · rw [nDigits_big h3] at hk
          have := ih (u / 10) (by omega)
          rw [Nat.pow_succ]; omega
    have := h2 9 u h1
    have h4 : (10 : Nat) ^ (9 + 1) = 10000000000 := by decide
    omega
  · exact h1
/-- The first place from i on at which a number stands, and the number; d: how many places are left. -/
def partGo (l : List UInt8) : Nat → Nat → Option (Nat × Int)
  | 0, _ => none
  | d + 1, i => match numAt (l.drop i) with
    | some n => some (i, n)
    | none => partGo l d (i + 1)
def partOf (s : ByteArray) (p : Option (Nat × Int)) : ByteArray × Int × Bool := match p with
  | some (i, n) => if i = 0 then (s, 0, false) else (s.extract 0 i, n, true)
  | none => (s, 0, false)
def partS (s : ByteArray) : ByteArray × Int × Bool := partOf s (partGo s.data.toList s.size 0)
theorem partGo_skip (l : List UInt8) : ∀ (d i : Nat), i + d = l.length → 10 < d → partGo l d i = partGo l (d - 1) (i + 1)
  | 0, i, h, hd => by omega
  | d + 1, i, h, hd => by
    rw [partGo]
    cases hn : numAt (l.drop i) with
    | none => rfl
    | some n =>
      exfalso
      obtain ⟨h1, h2, h3⟩ := (numAt_some _ _).1 hn
      have h4 := dec_small n.toNat (by omega)
      rw [← h1, List.length_drop] at h4
      omega
theorem partGo_late (l : List UInt8) : ∀ (e d i : Nat), i + d = l.length → d = e + 10 → partGo l d i = partGo l 10 (i + e)
  | 0, d, i, h, hd => by
    have : d = 10 := by omega
    subst this; rfl
  | e + 1, d, i, h, hd => by
    rw [partGo_skip l d i h (by omega), partGo_late l e (d - 1) (i + 1) (by omega) (by omega), show i + 1 + e = i + (e + 1) by omega]
theorem refPart_loop (s : ByteArray) (hs : s.size ≤ maxLen) : ∀ (d i : Nat), i + d = s.size → Ev (fun k => sequiturref02_Part.l0 k s i) (partOf s (partGo s.data.toList d i))
  | 0, i, h => by
    refine Ev.step (f := fun _ => some (s, 0, false)) (fun k => ?_) (Ev.now _)
    simp only [sequiturref02_Part.l0]; rw [if_neg (by omega)]
  | d + 1, i, h => by
    have ih := refPart_loop s hs d (i + 1) (by omega)
    unfold maxLen at hs
    have hx := extract_data s i (by omega)
    have hxs : (s.extract i s.size).size ≤ maxLen := by
      have := size_list (s.extract i s.size)
      rw [hx, List.length_drop] at this
      have := size_list s
      unfold maxLen; omega
    have hr := refRead_ev (s.extract i s.size) hxs
    rw [hx] at hr
    have hw := wrap_succ i (by omega)
    have hj : ∀ (n : Int), Ev (fun k => sequiturref02_Part.j1 k s i n true) (if i = 0 then (s, 0, false) else (s.extract 0 i, n, true)) := by
      intro n
      refine Ev.step (f := fun _ => some (if i = 0 then (s, 0, false) else (s.extract 0 i, n, true))) (fun k => ?_) (Ev.now _)
      simp only [sequiturref02_Part.j1, if_true]
      by_cases h0 : i = 0
      · rw [if_pos (by omega), if_pos h0]
      · rw [if_neg (by omega), if_neg h0, if_pos (by omega), if_pos (by omega), Int.toNat_natCast]
    have hf : ∀ (n : Int), Ev (fun k => sequiturref02_Part.j1 k s i n false) (partOf s (partGo s.data.toList d (i + 1))) := by
      intro n
      refine Ev.step (fun k => ?_) ih
      simp only [sequiturref02_Part.j1, Bool.false_eq_true, if_false]
      rw [hw]
    refine Ev.step (f := fun k => (sequiturref02_Read.f k (s.extract i s.size)).bind fun b => if b.2 = 0 then (if b.1 ≥ 1 then sequiturref02_Part.j1 k s i b.1 (decide (b.1 ≤ 2147483647)) else sequiturref02_Part.j1 k s i b.1 false) else sequiturref02_Part.j1 k s i b.1 false) (fun k => ?_) ?_
    · simp only [sequiturref02_Part.l0]
      rw [if_pos (by omega), if_pos (by omega), if_pos (by omega), Int.toNat_natCast]
    · refine Ev.bind hr ?_
      rw [partGo]
      unfold numAt
      by_cases h2 : (readS (s.data.toList.drop i)).2 = 0
      · refine Ev.pos h2 ?_
        by_cases h3 : (readS (s.data.toList.drop i)).1 ≥ 1
        · refine Ev.pos h3 ?_
          by_cases h4 : (readS (s.data.toList.drop i)).1 ≤ 2147483647
          · rw [decide_eq_true h4, if_pos ⟨h2, h3, h4⟩]; exact hj _
          · rw [decide_eq_false h4, if_neg (fun h => h4 h.2.2)]; exact hf _
        · rw [if_neg (fun h => h3 h.2.1)]
          exact Ev.neg h3 (hf _)
      · rw [if_neg (fun h => h2 h.1)]
        exact Ev.neg h2 (hf _)
theorem refPart_ev (s : ByteArray) (hs : s.size ≤ maxLen) : Ev (fun k => sequiturref02_Part.f k s) (partS s) := refPart_loop s hs s.size 0 (by omega)
theorem nat_num (l : List UInt8) : ((natS l 2147483647).2 = 0 ∧ (natS l 2147483647).1 > 0 ↔ numAt l = some (natS l 2147483647).1) ∧ (numAt l = none ↔ ¬ ((natS l 2147483647).2 = 0 ∧ (natS l 2147483647).1 > 0)) := by
  unfold natS numAt
  by_cases h : (readS l).2 = 0
  · by_cases h1 : (readS l).1 < 0
    · simp [h, h1]; omega
    · by_cases h2 : (readS l).1 > 2147483647
      · simp [h, h1, h2]; omega
      · simp [h, h1, h2]; omega
  · simp [h]
theorem part_loop (s : ByteArray) (hs : s.size ≤ 140737488351232) : ∀ (d i : Nat), i + d = s.size → Ev (fun k => digit_Part.l0 k s s 0 i) (partOf s (partGo s.data.toList d i))
  | 0, i, h => by
    refine Ev.step (f := fun _ => some (s, 0, false)) (fun k => ?_) (Ev.now _)
    simp only [digit_Part.l0]; rw [if_neg (by omega), if_pos trivial]
  | d + 1, i, h => by
    have ih := part_loop s hs d (i + 1) (by omega)
    have hz := size_list s
    have hx := extract_data s i (by omega)
    have hxs : (s.extract i s.size).size ≤ 140737488351232 := by
      have := size_list (s.extract i s.size)
      rw [hx, List.length_drop] at this
      omega
    have hr := nat_ev (s.extract i s.size) 2147483647 hxs
    rw [hx] at hr
    have hw := wrap_succ i (by omega)
    obtain ⟨hn1, hn2⟩ := nat_num (s.data.toList.drop i)
    refine Ev.step (f := fun k => (digit_Nat.f k (s.extract i s.size) 2147483647).bind fun b => if b.2 = 0 then (if b.1 > 0 then (if bt s i = 45 then digit_Part.l0 k s s 0 ((i + 1 : Nat) : Int) else (if b.1 = 0 then some (s, 0, false) else if (s.extract 0 i).toList = ([] : List UInt8) then some (s, 0, false) else some (s.extract 0 i, b.1, true))) else digit_Part.l0 k s s 0 ((i + 1 : Nat) : Int)) else digit_Part.l0 k s s 0 ((i + 1 : Nat) : Int)) (fun k => ?_) ?_
    · simp only [digit_Part.l0]
      rw [if_pos (by omega), if_pos (by omega), if_pos (by omega), Int.toNat_natCast, hw]
    · refine Ev.bind hr ?_
      rw [partGo]
      generalize hv : natS (s.data.toList.drop i) 2147483647 = b at hn1 hn2 ⊢
      by_cases hb : b.2 = 0 ∧ b.1 > 0
      · have hsome := hn1.1 hb
        obtain ⟨h1, h2, h3⟩ := (numAt_some _ _).1 hsome
        rw [hsome]
        have h45 : ¬ bt s i = 45 := by
          have hbt := bt_nat s i (by omega)
          have ha := dec_all b.1.toNat
          rw [← h1, List.drop_eq_getElem_cons (show i < s.data.toList.length by omega), List.all_cons, Bool.and_eq_true] at ha
          have := (isDig_iff _).1 ha.1
          omega
        refine Ev.pos hb.1 (Ev.pos hb.2 (Ev.neg h45 (Ev.neg (by omega) ?_)))
        have he : (s.extract 0 i).toList = ([] : List UInt8) ↔ i = 0 := by
          rw [Lib.toList_data, extract_head s i (by omega), List.take_eq_nil_iff]
          constructor
          · rintro (h | h)
            · exact h
            · rw [h] at hz; simp at hz; omega
          · exact .inl
        by_cases h0 : i = 0
        · refine Ev.pos (he.2 h0) (Ev.some_ ?_)
          simp [partOf, h0]
        · refine Ev.neg (fun h => h0 (he.1 h)) (Ev.some_ ?_)
          simp [partOf, h0]
      · rw [hn2.2 hb]
        by_cases h2 : b.2 = 0
        · exact Ev.pos h2 (Ev.neg (fun h3 => hb ⟨h2, h3⟩) ih)
        · exact Ev.neg h2 ih
theorem part_ev (s : ByteArray) (hs : s.size ≤ 140737488351232) : Ev (fun k => digit_Part.f k s) (partS s) := by
  have hz := size_list s
  unfold digit_Part.f partS
  have hm : mx 0 (wrap64 ((s.size : Int) - 10)) = ((s.size - 10 : Nat) : Int) := by
    rw [wrap_in _ (by omega) (by omega)]
    unfold mx
    split <;> omega
  rw [hm]
  by_cases h : s.size ≤ 10
  · rw [show s.size - 10 = 0 by omega]
    exact part_loop s hs s.size 0 (by omega)
  · refine Ev.get (part_loop s hs 10 (s.size - 10) (by omega)) ?_
    rw [partGo_late s.data.toList (s.size - 10) s.size 0 (by omega) (by omega), Nat.zero_add]
theorem partGo_some (l : List UInt8) : ∀ (d i j : Nat) (n : Int), i + d = l.length → partGo l d i = some (j, n) → i ≤ j ∧ j < l.length ∧ numAt (l.drop j) = some n
  | 0, i, j, n, hl, h => by simp [partGo] at h
  | d + 1, i, j, n, hl, h => by
    rw [partGo] at h
    cases hn : numAt (l.drop i) with
    | none =>
      rw [hn] at h
      obtain ⟨h1, h2⟩ := partGo_some l d (i + 1) j n (by omega) h
      exact ⟨by omega, h2⟩
    | some m =>
      rw [hn] at h
      simp only [Option.some.injEq, Prod.mk.injEq] at h
      obtain ⟨rfl, rfl⟩ := h
      exact ⟨Nat.le_refl _, by omega, hn⟩
theorem partS_back (s : ByteArray) : (∃ i n, partS s = (s.extract 0 i, n, true) ∧ 0 < i ∧ i < s.size ∧ 1 ≤ n ∧ n ≤ 2147483647 ∧ s.extract 0 i ++ mkB (itoa n) = s) ∨ partS s = (s, 0, false) := by
  have hz := size_list s
  unfold partS
  cases hp : partGo s.data.toList s.size 0 with
  | none => exact .inr rfl
  | some q =>
    obtain ⟨i, n⟩ := q
    obtain ⟨_, h1, h2⟩ := partGo_some _ _ _ _ _ (by omega) hp
    obtain ⟨h3, h4, h5⟩ := (numAt_some _ _).1 h2
    by_cases h0 : i = 0
    · exact .inr (by simp [partOf, h0])
    · refine .inl ⟨i, n, by simp [partOf, h0], by omega, by omega, h4, h5, ?_⟩
      have he : mkB (itoa n) = mkB (s.data.toList.drop i) := by
        rw [h3]
        unfold itoa
        rw [if_neg (by omega)]
      have hx : s.extract 0 i = mkB (s.data.toList.take i) := by rw [← ba_data, extract_head s i (by omega)]; rfl
      rw [he, hx, mkB_append, List.take_append_drop, mkB_of]
theorem partGo_first (l m : List UInt8) (n : Int) (hm : numAt m = some n) (c : UInt8) (hc : isDig c = false) : ∀ (p : List UInt8) (d i : Nat), l = p ++ c :: m → i ≤ p.length + 1 → i + d = l.length → 0 < m.length → partGo l d i = some (p.length + 1, n) := by
  intro p d
  induction d with
  | zero =>
    intro i hl hi hd hm0
    have := congrArg List.length hl
    simp at this
    omega
  | succ d ih =>
    intro i hl hi hd hm0
    rw [partGo]
    by_cases h : i = p.length + 1
    · have : l.drop i = m := by
        rw [hl, h, List.append_cons, List.drop_append_of_le_length (by simp), List.drop_of_length_le (by simp), List.nil_append]
      rw [this, hm, h]
    · have hnone : numAt (l.drop i) = none := by
        cases hn : numAt (l.drop i) with
        | none => rfl
        | some q =>
          exfalso
          obtain ⟨h1, _, _⟩ := (numAt_some _ _).1 hn
          have ha := dec_all q.toNat
          rw [← h1, hl, List.drop_append_of_le_length (by omega), List.all_append, List.all_cons, hc] at ha
          simp at ha
      rw [hnone]
      exact ih (i + 1) hl (by omega) (by omega) hm0
/-- What is put together is taken apart. -/
theorem partS_index (s : ByteArray) (n : Int) (h0 : 0 < s.size) (hl : isDig (s.data.toList[s.size - 1]'(by have := size_list s; omega)) = false) (h1 : 1 ≤ n) (h2 : n ≤ 2147483647) : partS (indexS s n) = (s, n, true) := by
  have hz := size_list s
  have hi : indexS s n = mkB (s.data.toList ++ decDigits n.toNat) := by
    unfold indexS itoa
    rw [if_neg (by omega), if_neg (by omega), ← mkB_append, mkB_of]
  have hnum : numAt (decDigits n.toNat) = some n := (numAt_some _ _).2 ⟨rfl, h1, h2⟩
  have hlen : 0 < (decDigits n.toNat).length := List.length_pos_iff.2 (dec_ne _)
  rw [hi]
  have hsplit : s.data.toList = s.data.toList.take (s.size - 1) ++ [s.data.toList[s.size - 1]'(by omega)] := by
    conv => lhs; rw [← List.take_append_drop (s.size - 1) s.data.toList]
    rw [List.drop_eq_getElem_cons (show s.size - 1 < s.data.toList.length by omega), List.drop_eq_nil_of_le (by omega)]
  have hgo := partGo_first (s.data.toList ++ decDigits n.toNat) (decDigits n.toNat) n hnum _ hl (s.data.toList.take (s.size - 1)) (s.data.toList ++ decDigits n.toNat).length 0
    (by conv => lhs; rw [hsplit]
        rw [List.append_assoc]; rfl) (by omega) (by omega) hlen
  unfold partS
  rw [mkB_data, mkB_size, hgo]
  have hp : (s.data.toList.take (s.size - 1)).length + 1 = s.size := by rw [List.length_take]; omega
  rw [hp]
  unfold partOf
  simp only
  rw [if_neg (by omega)]
  congr 1
  rw [← ba_data, extract_head _ _ (by rw [mkB_size, List.length_append]; omega), mkB_data, List.take_append_of_le_length (by omega), List.take_of_length_le (by omega)]
theorem alive_ev : Ev (fun k => sequiturlaw02_alive.f k) true := by
  unfold sequiturlaw02_alive.f
  refine Ev.bind (read_ev _ (by decide)) (Ev.bind (read_ev _ (by decide)) (Ev.bind (part_ev _ (by decide)) ?_))
  rw [text_f (-70) (by omega) (by omega)]
  simp only [Option.bind_some, mkB_toList]
  refine Ev.pos (by decide +kernel) (Ev.pos (by decide +kernel) (Ev.pos (by decide +kernel) (Ev.pos (by decide +kernel) (Ev.pos (by decide +kernel) (Ev.some_ (by decide +kernel))))))
end Go.Proofs.YtfbocehdhmpnaaaDoor.Pure
