/-
  Decimal digits: what a text of digits spells, when digits are those of a number, what the library's parse tells. No program in sight.
-/
import Derived.Test.YtdnlaeefalmgpaaDoorPureBase
import Derived.Lib.ParseIntB
import Derived.Lib.ItoaMem
namespace Go.Proofs.YtdnlaeefalmgpaaDoor.Pure
set_option linter.unusedVariables false
set_option linter.unusedSimpArgs false
open Go Go.Lib

/-- A decimal digit. -/
def isDig (c : UInt8) : Bool := decide (48 ≤ c.toNat) && decide (c.toNat ≤ 57)
/-- The digits of a number from 0 on, without a 0 ahead of others. -/
def canon (l : List UInt8) : Bool := l.all isDig && (!l.isEmpty && (l.head? != some 48 || decide (l.length = 1)))
/-- What digits behind a number spell. -/
def valFrom (a : Nat) (l : List UInt8) : Nat := l.foldl (fun a c => a * 10 + (c.toNat - 48)) a
def val (l : List UInt8) : Nat := valFrom 0 l

theorem valFrom_append (a : Nat) (l : List UInt8) (c : UInt8) : valFrom a (l ++ [c]) = valFrom a l * 10 + (c.toNat - 48) := by
  unfold valFrom; rw [List.foldl_append]; rfl
theorem valFrom_le : ∀ (l : List UInt8) (a : Nat), a ≤ valFrom a l
  | [], a => Nat.le_refl _
  | c :: l, a => by
    have := valFrom_le l (a * 10 + (c.toNat - 48))
    show a ≤ valFrom (a * 10 + (c.toNat - 48)) l
    omega
theorem decDigits_big {u : Nat} (h : ¬ u < 10) : decDigits u = decDigits (u / 10) ++ [UInt8.ofNat (48 + u % 10)] := by rw [decDigits, dif_neg h]
theorem ofNat_digit {d : Nat} (h : d < 10) : (UInt8.ofNat (48 + d)).toNat = 48 + d := by
  rw [UInt8.toNat_ofNat']; omega
theorem dec_ne (u : Nat) : decDigits u ≠ [] := by
  intro h
  have := decDigits_length u
  rw [h] at this
  have := nDigits_pos u
  simp at *; omega
theorem dec_all (u : Nat) : (decDigits u).all isDig = true := by
  induction u using Nat.strongRecOn with
  | _ u ih =>
    by_cases h : u < 10
    · rw [decDigits_one h, List.all_cons, List.all_nil, Bool.and_true, isDig, ofNat_digit h]
      simp; omega
    · rw [decDigits_big h, List.all_append, ih _ (by omega), List.all_cons, List.all_nil, Bool.and_true, isDig, ofNat_digit (by omega)]
      simp; omega
theorem dec_val (u : Nat) : val (decDigits u) = u := by
  induction u using Nat.strongRecOn with
  | _ u ih =>
    by_cases h : u < 10
    · rw [decDigits_one h]
      show 0 * 10 + ((UInt8.ofNat (48 + u)).toNat - 48) = u
      rw [ofNat_digit h]; omega
    · have h1 := ih (u / 10) (by omega)
      unfold val at h1 ⊢
      rw [decDigits_big h, valFrom_append, h1, ofNat_digit (by omega)]; omega
theorem dec_head (u : Nat) (h : 0 < u) : (decDigits u).head? ≠ some 48 := by
  induction u using Nat.strongRecOn with
  | _ u ih =>
    by_cases h1 : u < 10
    · rw [decDigits_one h1, List.head?_cons]
      intro he
      have h2 := congrArg UInt8.toNat (Option.some.inj he)
      rw [ofNat_digit h1] at h2
      have : (48 : UInt8).toNat = 48 := rfl
      omega
    · rw [decDigits_big h1]
      have h2 := ih (u / 10) (by omega) (by omega)
      cases hd : decDigits (u / 10) with
      | nil => exact absurd hd (dec_ne _)
      | cons c l => rw [hd] at h2; simpa using h2
theorem dec_canon (u : Nat) : canon (decDigits u) = true := by
  unfold canon
  rw [dec_all]
  cases hd : decDigits u with
  | nil => exact absurd hd (dec_ne _)
  | cons c l =>
    rw [Bool.true_and, List.isEmpty_cons, Bool.not_false, Bool.true_and, ← hd]
    by_cases h : 0 < u
    · simp [dec_head u h]
    · have : u = 0 := by omega
      subst this
      rw [decDigits_one (by omega)]; simp
theorem list_last {l : List UInt8} (h : l ≠ []) : ∃ i c, l = i ++ [c] := ⟨l.dropLast, l.getLast h, (List.dropLast_concat_getLast h).symm⟩
theorem canon_dec : ∀ (n : Nat) (l : List UInt8), l.length = n → canon l = true → decDigits (val l) = l
  | 0, l, hn, h => by
    rw [List.eq_nil_of_length_eq_zero hn] at h
    simp [canon] at h
  | n + 1, l, hn, h => by
    obtain ⟨i, c, rfl⟩ := list_last (l := l) (by rintro rfl; simp at hn)
    simp only [canon, List.all_append, List.all_cons, List.all_nil, Bool.and_true, Bool.and_eq_true, Bool.or_eq_true] at h
    obtain ⟨⟨hi, hc⟩, _, hh⟩ := h
    have hc2 : 48 ≤ c.toNat ∧ c.toNat ≤ 57 := by simpa [isDig] using hc
    have hcc : UInt8.ofNat c.toNat = c := by simp
    rw [val, valFrom_append]
    cases hil : i with
    | nil =>
      show decDigits (0 * 10 + (c.toNat - 48)) = [c]
      rw [Nat.zero_mul, Nat.zero_add, decDigits_one (by omega), show 48 + (c.toNat - 48) = c.toNat by omega, hcc]
    | cons d i' =>
      rw [← hil]
      have hhd : i.head? ≠ some 48 := by
        rcases hh with hh | hh
        · rw [hil] at hh ⊢; simpa using hh
        · simp [hil] at hh
      have hci : canon i = true := by
        unfold canon
        rw [hi, hil]
        rw [hil] at hhd
        simp at hhd ⊢
        exact .inl hhd
      have h1 := canon_dec n i (by simpa using hn) hci
      have hpos : 0 < val i := by
        rcases Nat.eq_zero_or_pos (val i) with h0 | h0
        · rw [h0, decDigits_one (by omega)] at h1
          rw [← h1] at hhd
          exact absurd rfl hhd
        · exact h0
      unfold val at h1 hpos
      rw [decDigits_big (by omega), show (valFrom 0 i * 10 + (c.toNat - 48)) / 10 = valFrom 0 i by omega, show (valFrom 0 i * 10 + (c.toNat - 48)) % 10 = c.toNat - 48 by omega, h1, show 48 + (c.toNat - 48) = c.toNat by omega, hcc]
theorem canon_eq {l : List UInt8} (h : canon l = true) : decDigits (val l) = l := canon_dec _ l rfl h
theorem parseM (l : List UInt8) : ∀ (a : Nat), l.all isDig = true → parseUintM 18446744073709551615 a l = if valFrom a l ≤ 18446744073709551615 then .ok (valFrom a l) else (if a ≤ 18446744073709551615 then .range else parseUintM 18446744073709551615 a l) := by
  induction l with
  | nil =>
    intro a _
    show NumEnd.ok a = if a ≤ _ then NumEnd.ok a else _
    split
    · rfl
    · rfl
  | cons c l ih =>
    intro a h
    simp only [List.all_cons, Bool.and_eq_true] at h
    have hc2 : 48 ≤ c.toNat ∧ c.toNat ≤ 57 := by simpa [isDig] using h.1
    have hv : valFrom a (c :: l) = valFrom (a * 10 + (c.toNat - 48)) l := rfl
    rw [hv]
    have hle := valFrom_le l (a * 10 + (c.toNat - 48))
    by_cases h1 : valFrom (a * 10 + (c.toNat - 48)) l ≤ 18446744073709551615
    · rw [if_pos h1, parseUintM, if_pos hc2, if_neg (by omega), if_neg (by omega), ih _ h.2, if_pos h1]
    · rw [if_neg h1]
      by_cases h2 : a ≤ 18446744073709551615
      · rw [if_pos h2, parseUintM, if_pos hc2]
        split
        · rfl
        · split
          · rfl
          · rw [ih _ h.2, if_neg h1, if_pos (by omega)]
      · rw [if_neg h2]
theorem parseU (l : List UInt8) (hne : l ≠ []) (h : l.all isDig = true) : parseUintB 64 l = if val l ≤ 18446744073709551615 then .ok (val l) else .range := by
  unfold parseUintB
  rw [if_neg hne]
  show parseUintM 18446744073709551615 0 l = _
  rw [parseM l 0 h]
  unfold val
  split
  · rfl
  · rw [if_pos (by omega)]
/-- The number whose digits a text is, or why it is none: 7: no digits; 5: too great. -/
def readS (s : List UInt8) : Int × Int :=
  if s.head? = some 45 then
    (if canon s.tail = true ∧ s ≠ [45, 48] then (if val s.tail ≤ 9223372036854775808 then (-(val s.tail : Int), 0) else (0, 5)) else (0, 7))
  else (if canon s = true then (if val s < 9223372036854775808 then ((val s : Int), 0) else (0, 5)) else (0, 7))
theorem canon_all {l : List UInt8} (h : canon l = true) : l.all isDig = true ∧ l ≠ [] := by
  simp only [canon, Bool.and_eq_true] at h
  exact ⟨h.1, by rintro rfl; simp at h⟩
theorem readS_iff (s : List UInt8) (v : Int) : readS s = (v, 0) ↔ s = itoa v ∧ -9223372036854775808 ≤ v ∧ v ≤ 9223372036854775807 := by
  constructor
  · intro h
    unfold readS at h
    split at h
    · rename_i hd
      obtain ⟨t, rfl⟩ : ∃ t, s = 45 :: t := by
        cases s with
        | nil => simp at hd
        | cons c t => simp at hd; exact ⟨t, by rw [hd]⟩
      split at h
      · rename_i hc
        replace h : (if val t ≤ 9223372036854775808 then (-(val t : Int), (0 : Int)) else (0, 5)) = (v, 0) := h
        simp only [List.tail_cons] at hc
        by_cases hle : val t ≤ 9223372036854775808
        · rw [if_pos hle] at h
          simp only [Prod.mk.injEq, and_true] at h
          subst h
          have h1 := canon_eq hc.1
          have h0 : val t ≠ 0 := by
            intro h0
            rw [h0, decDigits_one (by omega)] at h1
            exact hc.2 (by rw [← h1]; rfl)
          refine ⟨?_, by omega, by omega⟩
          unfold itoa
          rw [if_pos (by omega), show (-(val t : Int)).natAbs = val t by omega, h1]
        · rw [if_neg hle] at h; simp at h
      · simp at h
    · split at h
      · rename_i hc
        split at h
        · simp only [Prod.mk.injEq, and_true] at h
          subst h
          refine ⟨?_, by omega, by omega⟩
          unfold itoa
          rw [if_neg (by omega), Int.toNat_natCast, canon_eq hc]
        · simp at h
      · simp at h
  · rintro ⟨rfl, h0, h1⟩
    unfold readS itoa
    by_cases hn : v < 0
    · rw [if_pos hn, if_pos (by rfl), List.tail_cons, dec_val]
      have hne : (45 :: decDigits v.natAbs : List UInt8) ≠ [45, 48] := by
        intro he
        have h2 := dec_val v.natAbs
        rw [(List.cons.inj he).2] at h2
        have : val [48] = 0 := rfl
        omega
      rw [if_pos ⟨dec_canon _, hne⟩, if_pos (by omega)]
      simp; omega
    · rw [if_neg hn]
      have hh : (decDigits v.toNat).head? ≠ some 45 := by
        have ha := dec_all v.toNat
        cases hd : decDigits v.toNat with
        | nil => simp
        | cons c l =>
          rw [hd] at ha
          simp only [List.all_cons, Bool.and_eq_true, isDig] at ha
          intro he
          simp at he
          subst he
          simp at ha
      rw [if_neg hh, dec_val, if_pos (dec_canon _), if_pos (by omega)]
      simp; omega
theorem readS_zero (s : List UInt8) (h : (readS s).2 ≠ 0) : (readS s).1 = 0 := by
  unfold readS at h ⊢
  split
  · split
    · split
      · simp_all
      · rfl
    · rfl
  · split
    · split
      · simp_all
      · rfl
    · rfl
theorem itoa_inj {a b : Int} (h : itoa a = itoa b) (ha : -9223372036854775808 ≤ a ∧ a ≤ 9223372036854775807) (hb : -9223372036854775808 ≤ b ∧ b ≤ 9223372036854775807) : a = b := by
  have h1 := (readS_iff (itoa a) a).2 ⟨rfl, ha⟩
  have h2 := (readS_iff (itoa b) b).2 ⟨rfl, hb⟩
  rw [h, h2] at h1
  exact (Prod.mk.inj h1).1.symm
/-- The library's parse of digits. -/
theorem parse_readS (s : List UInt8) (hc : canon (if s.head? = some 45 then s.tail else s) = true) (hne : s ≠ [45, 48]) :
    (match parseIntB 64 s with | .ok v => (v, (0 : Int)) | _ => (0, 5)) = readS s := by
  cases s with
  | nil => simp [canon] at hc
  | cons c r =>
    unfold readS
    by_cases h45 : c = 45
    · subst h45
      rw [if_pos (by rfl)] at hc ⊢
      rw [List.tail_cons] at hc ⊢
      rw [if_pos ⟨hc, hne⟩]
      obtain ⟨ha, hn⟩ := canon_all hc
      unfold parseIntB
      dsimp only
      have h3 : (2:Nat) ^ (64 - 1) = 9223372036854775808 := by decide
      rw [if_pos (.inr rfl), parseU r hn ha]
      by_cases h1 : val r ≤ 18446744073709551615
      · rw [if_pos h1]
        dsimp only
        rw [if_neg (by intro h; exact h.1 rfl)]
        by_cases h2 : val r ≤ 9223372036854775808
        · rw [if_pos h2, if_neg (by omega), if_pos (by rfl)]
        · rw [if_neg h2, if_pos ⟨by rfl, by omega⟩]
      · rw [if_neg h1, if_neg (by omega)]
    · have hh : ¬ (c :: r).head? = some 45 := by simpa using h45
      rw [if_neg hh] at hc ⊢
      rw [if_pos hc]
      obtain ⟨ha, hn⟩ := canon_all hc
      have hcd : 48 ≤ c.toNat ∧ c.toNat ≤ 57 := by
        simp only [List.all_cons, Bool.and_eq_true] at ha
        simpa [isDig] using ha.1
      unfold parseIntB
      dsimp only
      rw [if_neg (by omega), parseU _ hn ha]
      generalize val (c :: r) = V
      have h3 : (2:Nat) ^ (64 - 1) = 9223372036854775808 := by decide
      by_cases h1 : V ≤ 18446744073709551615
      · rw [if_pos h1]
        dsimp only
        by_cases h2 : V < 9223372036854775808
        · rw [if_pos h2, if_neg (by omega), if_neg (by omega), if_neg (by omega)]
        · rw [if_neg h2, if_pos ⟨by omega, by omega⟩]
      · rw [if_neg h1, if_neg (by omega)]
theorem valFrom_zero : ∀ (l : List UInt8) (a : Nat), valFrom a l = a * 10 ^ l.length + valFrom 0 l
  | [], a => by simp [valFrom]
  | c :: l, a => by
    have h1 := valFrom_zero l (a * 10 + (c.toNat - 48))
    have h2 := valFrom_zero l (0 * 10 + (c.toNat - 48))
    show valFrom (a * 10 + (c.toNat - 48)) l = a * 10 ^ (l.length + 1) + valFrom (0 * 10 + (c.toNat - 48)) l
    rw [h1, h2, Nat.zero_mul, Nat.zero_add, Nat.add_mul, Nat.pow_succ, Nat.mul_assoc, Nat.mul_comm 10, Nat.add_assoc]
theorem val_lt : ∀ (l : List UInt8), l.all isDig = true → val l < 10 ^ l.length
  | [], _ => by simp [val, valFrom]
  | c :: l, h => by
    rw [List.all_cons, Bool.and_eq_true] at h
    have hc : 48 ≤ c.toNat ∧ c.toNat ≤ 57 := by simpa [isDig] using h.1
    have ih := val_lt l h.2
    have h2 := valFrom_zero l (0 * 10 + (c.toNat - 48))
    show valFrom (0 * 10 + (c.toNat - 48)) l < 10 ^ (l.length + 1)
    unfold val at ih
    rw [h2, Nat.pow_succ]
    have : (0 * 10 + (c.toNat - 48)) * 10 ^ l.length ≤ 9 * 10 ^ l.length := Nat.mul_le_mul_right _ (by omega)
    omega
/-- Digits without a 0 ahead are great. -/
theorem val_ge (l : List UInt8) (h : canon l = true) (h2 : 2 ≤ l.length) : 10 ^ (l.length - 1) ≤ val l := by
  cases l with
  | nil => simp at h2
  | cons c l =>
    have ha := (canon_all h).1
    rw [List.all_cons, Bool.and_eq_true] at ha
    have hc : 48 ≤ c.toNat ∧ c.toNat ≤ 57 := by simpa [isDig] using ha.1
    have hne : c ≠ 48 := by
      intro he
      subst he
      simp [canon] at h
      simp [h.2] at h2
    have hc2 : c.toNat ≠ 48 := by
      intro he
      apply hne
      rw [← UInt8.toNat_inj, he]; rfl
    have h3 := valFrom_zero l (0 * 10 + (c.toNat - 48))
    show 10 ^ (l.length + 1 - 1) ≤ valFrom (0 * 10 + (c.toNat - 48)) l
    rw [h3, Nat.add_sub_cancel]
    have : 1 * 10 ^ l.length ≤ (0 * 10 + (c.toNat - 48)) * 10 ^ l.length := Nat.mul_le_mul_right _ (by omega)
    omega
theorem less_len (a b : List UInt8) (ha : canon a = true) (hb : canon b = true) (h : a.length < b.length) : val a < val b := by
  have h1 := val_lt a (canon_all ha).1
  have h6 : 0 < a.length := List.length_pos_iff.2 (canon_all ha).2
  have h3 := val_ge b hb (by omega)
  have h4 : 10 ^ a.length ≤ 10 ^ (b.length - 1) := Nat.pow_le_pow_right (by omega) (by omega)
  omega
theorem less_same : ∀ (a b : List UInt8), a.length = b.length → a.all isDig = true → b.all isDig = true → Op.bytesLess a b = decide (val a < val b)
  | [], [], _, _, _ => by simp [Op.bytesLess]
  | [], _ :: _, h, _, _ => by simp at h
  | _ :: _, [], h, _, _ => by simp at h
  | c :: a, d :: b, h, ha, hb => by
    rw [List.all_cons, Bool.and_eq_true] at ha hb
    have hc : 48 ≤ c.toNat ∧ c.toNat ≤ 57 := by simpa [isDig] using ha.1
    have hd : 48 ≤ d.toNat ∧ d.toNat ≤ 57 := by simpa [isDig] using hb.1
    have hl : a.length = b.length := by simpa using h
    have ih := less_same a b hl ha.2 hb.2
    have h1 := val_lt a ha.2
    have h2 := val_lt b hb.2
    have e1 : val (c :: a) = (c.toNat - 48) * 10 ^ a.length + val a := by
      have := valFrom_zero a (0 * 10 + (c.toNat - 48))
      show valFrom (0 * 10 + (c.toNat - 48)) a = _
      rw [this, Nat.zero_mul, Nat.zero_add]; rfl
    have e2 : val (d :: b) = (d.toNat - 48) * 10 ^ a.length + val b := by
      have := valFrom_zero b (0 * 10 + (d.toNat - 48))
      show valFrom (0 * 10 + (d.toNat - 48)) b = _
      rw [this, Nat.zero_mul, Nat.zero_add, hl]; rfl
    rw [← hl] at h2
    rw [Op.bytesLess, ih, e1, e2]
    generalize 10 ^ a.length = M at *
    rcases Nat.lt_trichotomy c.toNat d.toNat with hlt | heq | hgt
    · have h3 : c < d := UInt8.lt_iff_toNat_lt.2 hlt
      have : (c.toNat - 48 + 1) * M ≤ (d.toNat - 48) * M := Nat.mul_le_mul_right _ (by omega)
      rw [Nat.add_mul] at this
      rw [decide_eq_true h3, Bool.true_or, decide_eq_true (by omega)]
    · have h3 : c = d := UInt8.toNat_inj.1 heq
      subst h3
      have h4 : ¬ c < c := by rw [UInt8.lt_iff_toNat_lt]; omega
      rw [decide_eq_false h4, Bool.false_or, beq_self_eq_true, Bool.true_and, decide_eq_decide]
      omega
    · have h3 : ¬ c < d := by rw [UInt8.lt_iff_toNat_lt]; omega
      have h4 : (c == d) = false := by
        rw [beq_eq_false_iff_ne]; rintro rfl; omega
      have : (d.toNat - 48 + 1) * M ≤ (c.toNat - 48) * M := Nat.mul_le_mul_right _ (by omega)
      rw [Nat.add_mul] at this
      rw [decide_eq_false h3, Bool.false_or, h4, Bool.false_and, decide_eq_false (by omega)]
end Go.Proofs.YtdnlaeefalmgpaaDoor.Pure
