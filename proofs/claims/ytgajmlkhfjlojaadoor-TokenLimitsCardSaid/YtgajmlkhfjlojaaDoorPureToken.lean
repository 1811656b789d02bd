/-
  The tokens of a text: what they are, in plain words, and that the program's functions and the reference's tell just that.
-/
import Derived.Test.YtgajmlkhfjlojaaDoorPureTok
import Derived.Test.YtgajmlkhfjlojaaDoorPrint2
import Derived.Test.YtgajmlkhfjlojaaDoorPrint3
import Derived.Test.YtgajmlkhfjlojaaDoorPrint4
import Derived.Test.YtgajmlkhfjlojaaDoorPrint5
import Derived.Test.YtgajmlkhfjlojaaDoorPrint6
import Derived.Test.YtgajmlkhfjlojaaDoorPrint7
import Derived.Test.YtgajmlkhfjlojaaDoorPrint16
namespace Go.Proofs.YtgajmlkhfjlojaaDoor.Pure
set_option linter.unusedVariables false
set_option linter.unusedSimpArgs false
open Go.RowKit Go.Proofs.YtgajmlkhfjlojaaDoor.Print Go.Proofs.YtgajmlkhfjlojaaDoor.Spec Go.Proofs.YtgajmlkhfjlojaaDoor.Aux Go.Proofs.YtgajmlkhfjlojaaDoorW.PrintWords Go.Proofs.YtgajmlkhfjlojaaDoorW.PrintLast Go.Proofs.YtgajmlkhfjlojaaDoorW.PrintMore

/-! ### blanks -/
def blankI (c : Int) : Bool := decide (c = 9) || decide (c = 10) || decide (c = 13) || decide (c = 32)
theorem blankI_iff (c : Int) : blankI c = true ↔ c = 9 ∨ c = 10 ∨ c = 13 ∨ c = 32 := by simp [blankI, or_assoc]
/-- How many bytes of blanks begin a text; r: within a remark. -/
def blankG : Bool → List UInt8 → Nat
  | _, [] => 0
  | r, c :: l => if b2i c = 35 then blankG true l + 1 else if r = true ∧ b2i c ≠ 10 then blankG true l + 1 else if blankI (b2i c) = true then blankG false l + 1 else 0
theorem blankG_le : ∀ (l : List UInt8) (r : Bool), blankG r l ≤ l.length
  | [], r => by simp [blankG]
  | c :: l, r => by
    have h1 := blankG_le l true
    have h2 := blankG_le l false
    rw [blankG, List.length_cons]
    repeat' split
    all_goals omega
theorem blankG_remark : ∀ l : List UInt8, blankG true l = runL remarkI l + blankG false (l.drop (runL remarkI l))
  | [] => by simp [blankG, runL]
  | c :: l => by
    have ih := blankG_remark l
    by_cases h : b2i c = 10
    · have h0 : runL remarkI (c :: l) = 0 := by simp [runL, List.takeWhile_cons, remarkI, h]
      rw [h0, List.drop_zero, blankG, blankG]
      simp [h]
    · have h0 : runL remarkI (c :: l) = runL remarkI l + 1 := by simp [runL, List.takeWhile_cons, remarkI, h]
      rw [h0, List.drop_succ_cons, blankG]
      simp only [h, not_false_eq_true, ne_eq, and_self, if_true]
      split <;> omega
theorem bt_drop (s : ByteArray) (i : Nat) (h : i < s.size) : ∃ c, s.data.toList.drop i = c :: s.data.toList.drop (i + 1) ∧ bt s (i : Int) = b2i c := by
  have hz := size_list s
  exact ⟨_, List.drop_eq_getElem_cons (by omega), bt_list s i (by omega)⟩
theorem refBlank_loop (s : ByteArray) (hs : s.size ≤ maxLen) : ∀ (d i : Nat) (r : Bool), i + d = s.size → Ev (fun k => sequiturref03_Blank.l0 k s i r) ((i + blankG r (s.data.toList.drop i) : Nat) : Int)
  | 0, i, r, h => by
    have hz := size_list s
    refine Ev.step (f := fun _ => some (i : Int)) (fun k => ?_) (Ev.some_ ?_)
    · simp only [sequiturref03_Blank.l0]; rw [if_neg (by omega)]
    · rw [List.drop_eq_nil_of_le (by omega)]; cases r <;> simp [blankG]
  | d + 1, i, r, h => by
    unfold maxLen at hs
    obtain ⟨K1, e1⟩ := refBlank_loop s (by unfold maxLen; exact hs) d (i + 1) true (by omega)
    obtain ⟨K2, e2⟩ := refBlank_loop s (by unfold maxLen; exact hs) d (i + 1) false (by omega)
    refine ⟨K1 + K2 + 2, fun k hk => ?_⟩
    obtain ⟨k, rfl⟩ : ∃ n, k = n + 2 := ⟨k - 2, by omega⟩
    replace e1 : sequiturref03_Blank.l0 k s ((i + 1 : Nat) : Int) true = _ := e1 k (by omega)
    replace e2 : sequiturref03_Blank.l0 k s ((i + 1 : Nat) : Int) false = _ := e2 k (by omega)
    obtain ⟨c, hc, hb⟩ := bt_drop s i (by omega)
    show sequiturref03_Blank.l0 (k + 1 + 1) s i r = _
    rw [sequiturref03_Blank.l0, if_pos (by omega), if_pos (by omega), hb, hc, blankG]
    generalize hX : blankG true (s.data.toList.drop (i + 1)) = X at e1 ⊢
    generalize hY : blankG false (s.data.toList.drop (i + 1)) = Y at e2 ⊢
    generalize b2i c = c
    cases r <;> simp only [sequiturref03_Blank.j1, wrap_succ i (by omega), e1, e2, blankI_iff, Bool.false_eq_true, false_and, true_and, ne_eq, if_false, if_true] <;> (repeat' split) <;> first | exact congrArg some (by omega) | (exfalso; omega)
theorem refBlank_ev (s : ByteArray) (hs : s.size ≤ maxLen) (i : Nat) (h : i ≤ s.size) : Ev (fun k => sequiturref03_Blank.f k s i) ((i + blankG false (s.data.toList.drop i) : Nat) : Int) := refBlank_loop s hs (s.size - i) i false (by omega)

theorem remark_f (s : ByteArray) (hs : s.size ≤ maxLen) (i : Nat) (h : i ≤ s.size) : token_run_remark.f s (i : Int) = some ((runL remarkI (s.data.toList.drop i) : Nat) : Int) := by
  unfold maxLen at hs
  unfold token_run_remark.f runFrom
  rw [if_pos ⟨by omega, by omega, by omega⟩, Int.toNat_natCast]
theorem runL_le (p : Int → Bool) (l : List UInt8) : runL p l ≤ l.length := by unfold runL; exact (List.takeWhile_sublist _).length_le
theorem blanks_loop (s : ByteArray) (hs : s.size ≤ maxLen) (a : Nat) : ∀ (n d i : Nat), d ≤ n → i + d = s.size → a ≤ i → Ev (fun k => token_blanks.l0 k s a i) ((i - a + blankG false (s.data.toList.drop i) : Nat) : Int)
  | _, 0, i, _, h, ha => by
    have hz := size_list s
    refine Ev.step (f := fun _ => some ((i - a : Nat) : Int)) (fun k => ?_) (Ev.some_ ?_)
    · unfold maxLen at hs
      simp only [token_blanks.l0]; rw [if_neg (by omega), wrap_in _ (by omega) (by omega)]; congr 1; omega
    · rw [List.drop_eq_nil_of_le (by omega)]; simp [blankG]
  | n + 1, d + 1, i, hn, h, ha => by
    have hz := size_list s
    have hs2 := hs
    unfold maxLen at hs2
    obtain ⟨c, hc, hb⟩ := bt_drop s i (by omega)
    obtain ⟨K1, e1⟩ := blanks_loop s hs a n d (i + 1) (by omega) (by omega) (by omega)
    have hrl := runL_le remarkI (s.data.toList.drop i)
    rw [List.length_drop] at hrl
    by_cases h35 : b2i c = 35
    · have hr : runL remarkI (s.data.toList.drop i) = runL remarkI (s.data.toList.drop (i + 1)) + 1 := by
        rw [hc]; simp [runL, List.takeWhile_cons, remarkI, h35]
      have hg : blankG false (s.data.toList.drop i) = blankG true (s.data.toList.drop (i + 1)) + 1 := by rw [hc, blankG, if_pos h35]
      obtain ⟨K2, e2⟩ := blanks_loop s hs a n (d + 1 - runL remarkI (s.data.toList.drop i)) (i + runL remarkI (s.data.toList.drop i)) (by omega) (by omega) (by omega)
      refine ⟨K2 + 2, fun k hk => ?_⟩
      obtain ⟨k, rfl⟩ : ∃ n, k = n + 2 := ⟨k - 2, by omega⟩
      replace e2 : token_blanks.l0 k s a ((i + runL remarkI (s.data.toList.drop i) : Nat) : Int) = _ := e2 k (by omega)
      show token_blanks.l0 (k + 1 + 1) s a i = _
      rw [token_blanks.l0, if_pos (by omega), if_pos (by omega), hb]
      simp only [token_blanks.j1, remark_f s hs i (by omega), Option.bind_some, h35]
      rw [show wrap64 ((i : Int) + (runL remarkI (s.data.toList.drop i) : Nat)) = ((i + runL remarkI (s.data.toList.drop i) : Nat) : Int) by rw [wrap_in _ (by omega) (by omega)]; omega, e2]
      simp only [show ¬ ((35 : Int) = 9) by decide, show ¬ ((35 : Int) = 10) by decide, show ¬ ((35 : Int) = 13) by decide, show ((35 : Int) == 32) = false by decide, if_false, if_true, Bool.false_eq_true]
      have hrm := blankG_remark (s.data.toList.drop (i + 1))
      rw [List.drop_drop] at hrm
      rw [hg, hr, hrm]
      rw [show i + (runL remarkI (s.data.toList.drop (i + 1)) + 1) = i + 1 + runL remarkI (s.data.toList.drop (i + 1)) by omega]
      congr 1; omega
    · refine ⟨K1 + 2, fun k hk => ?_⟩
      obtain ⟨k, rfl⟩ : ∃ n, k = n + 2 := ⟨k - 2, by omega⟩
      replace e1 : token_blanks.l0 k s a ((i + 1 : Nat) : Int) = _ := e1 k (by omega)
      show token_blanks.l0 (k + 1 + 1) s a i = _
      rw [token_blanks.l0, if_pos (by omega), if_pos (by omega), hb, hc, blankG]
      simp only [token_blanks.j1, wrap_succ i (by omega), e1]
      rw [wrap_in ((i : Int) - a) (by omega) (by omega)]
      generalize blankG false (s.data.toList.drop (i + 1)) = Y
      generalize b2i c = c at h35
      simp only [blankI_iff, beq_iff_eq, Bool.false_eq_true, false_and, if_false] <;> (repeat' split) <;> first | exact congrArg some (by omega) | (exfalso; omega)
theorem blanks_ev (s : ByteArray) (hs : s.size ≤ maxLen) (i : Nat) (h : i ≤ s.size) : Ev (fun k => token_blanks.f k s i) ((blankG false (s.data.toList.drop i) : Nat) : Int) :=
  Ev.get (blanks_loop s hs i (s.size - i) (s.size - i) i (Nat.le_refl _) (by omega) (Nat.le_refl _)) (by simp)

/-! ### signs -/
def signsB : List ByteArray := [(⟨#[40]⟩ : ByteArray), (⟨#[41]⟩ : ByteArray), (⟨#[91]⟩ : ByteArray), (⟨#[93]⟩ : ByteArray), (⟨#[123]⟩ : ByteArray), (⟨#[125]⟩ : ByteArray), (⟨#[44]⟩ : ByteArray), (⟨#[46]⟩ : ByteArray), (⟨#[58]⟩ : ByteArray), (⟨#[59]⟩ : ByteArray), (⟨#[61]⟩ : ByteArray), (⟨#[58, 61]⟩ : ByteArray), (⟨#[60, 61]⟩ : ByteArray), (⟨#[60]⟩ : ByteArray), (⟨#[62, 61]⟩ : ByteArray), (⟨#[62]⟩ : ByteArray), (⟨#[43]⟩ : ByteArray), (⟨#[45]⟩ : ByteArray), (⟨#[42]⟩ : ByteArray), (⟨#[126]⟩ : ByteArray), (⟨#[38]⟩ : ByteArray), (⟨#[124]⟩ : ByteArray), (⟨#[45, 62]⟩ : ByteArray), (⟨#[60, 45, 62]⟩ : ByteArray), (⟨#[124, 45]⟩ : ByteArray), (⟨#[33]⟩ : ByteArray), (⟨#[63]⟩ : ByteArray)]
theorem fields_signs : strings_Fields.f (⟨#[40, 32, 41, 32, 91, 32, 93, 32, 123, 32, 125, 32, 44, 32, 46, 32, 58, 32, 59, 32, 61, 32, 58, 61, 32, 60, 61, 32, 60, 32, 62, 61, 32, 62, 32, 43, 32, 45, 32, 42, 32, 126, 32, 38, 32, 124, 32, 45, 62, 32, 60, 45, 62, 32, 124, 45, 32, 33, 32, 63]⟩ : ByteArray) = some signsB := by decide +kernel
theorem signs_f : token_Signs.f = some signsB := by
  unfold token_Signs.f
  rw [fields_signs]; rfl
theorem refSigns_f : sequiturref03_Signs.f = some signsB := rfl
/-- Does a sign stand at the head? -/
def atL (l : List UInt8) (x : ByteArray) : Bool := decide (l.take x.size = x.data.toList)
def signGo (l : List UInt8) : ByteArray → List ByteArray → ByteArray
  | b, [] => b
  | b, x :: xs => signGo l (if b.size < x.size ∧ atL l x = true then x else b) xs
def signS (l : List UInt8) : ByteArray := signGo l (⟨#[]⟩ : ByteArray) signsB
theorem extract_list (s : ByteArray) (a b : Nat) : (s.extract a b).data.toList = (s.data.toList.drop a).take (b - a) := by
  rw [← Lib.toList_data, Lib.extract_toList, ← Lib.toList_data]
theorem prefix_f (a b : ByteArray) : strings_HasPrefix.f a b = some (atL a.data.toList b) := by
  have hz := size_list a
  have hy := size_list b
  unfold strings_HasPrefix.f stringslite_HasPrefix.f
  by_cases h : (a.size : Int) ≥ (b.size : Int)
  · rw [if_pos h, if_pos (by omega), if_pos (by omega), Option.bind_some, Int.toNat_natCast]
    congr 1
    rw [Lib.toList_data, Lib.toList_data, extract_list, List.drop_zero, Nat.sub_zero]
    unfold atL
    rw [Bool.eq_iff_iff]; simp
  · rw [if_neg h, Option.bind_some]
    congr 1
    unfold atL
    symm
    rw [decide_eq_false_iff_not]
    intro he
    have := congrArg List.length he
    rw [List.length_take] at this
    omega
theorem sign_loop (s : ByteArray) (hs : s.size ≤ maxLen) (i : Nat) (hi : i ≤ s.size) (l : List ByteArray) (hl : l.length ≤ maxLen) : ∀ (d j : Nat) (b : ByteArray), j + d = l.length →
    Ev (fun k => token_sign.l0 k s i b l l.length j) (signGo (s.data.toList.drop i) b (l.drop j))
  | 0, j, b, h => by
    refine Ev.step (f := fun _ => some b) (fun k => ?_) (Ev.some_ ?_)
    · simp only [token_sign.l0]; rw [if_neg (by omega)]
    · rw [show l.drop j = [] from List.drop_eq_nil_of_le (by omega)]; rfl
  | d + 1, j, b, h => by
    have hl2 := hl
    unfold maxLen at hl2
    refine Ev.step (f := fun k => if (b.size : Int) < (l[j].size : Int) then (if atL (s.data.toList.drop i) l[j] = true then token_sign.l0 k s i l[j] l l.length ((j + 1 : Nat) : Int) else token_sign.l0 k s i b l l.length ((j + 1 : Nat) : Int)) else token_sign.l0 k s i b l l.length ((j + 1 : Nat) : Int)) (fun k => ?_) ?_
    · simp only [token_sign.l0]
      rw [if_pos (by omega), if_pos (by omega), if_pos (by omega), rd_at l j (by omega), wrap_succ j (by omega), if_pos (show (0 : Int) ≤ i by omega), if_pos (show (i : Int) ≤ s.size by omega), prefix_f, Option.bind_some, Int.toNat_natCast, extract_list, List.take_of_length_le (by rw [List.length_drop, size_list]; omega)]
    · rw [show l.drop j = l[j] :: l.drop (j + 1) from List.drop_eq_getElem_cons (show j < l.length by omega), signGo]
      by_cases e : b.size < l[j].size
      · refine Ev.pos (by omega) ?_
        by_cases f : atL (s.data.toList.drop i) l[j] = true
        · rw [if_pos ⟨e, f⟩]; exact Ev.pos f (sign_loop s hs i hi l hl d (j + 1) _ (by omega))
        · rw [if_neg (fun h => f h.2)]; exact Ev.neg f (sign_loop s hs i hi l hl d (j + 1) _ (by omega))
      · rw [if_neg (fun h => e h.1)]; exact Ev.neg (by omega) (sign_loop s hs i hi l hl d (j + 1) _ (by omega))
theorem sign_ev (s : ByteArray) (hs : s.size ≤ maxLen) (i : Nat) (hi : i ≤ s.size) : Ev (fun k => token_sign.f k s i) (signS (s.data.toList.drop i)) := by
  unfold token_sign.f
  rw [fields_signs]
  simp only [Option.bind_some]
  exact sign_loop s hs i hi signsB (by unfold maxLen; decide) signsB.length 0 _ (by omega)
theorem at_extract (s : ByteArray) (i : Nat) (x : ByteArray) (h : i + x.size ≤ s.size) : (s.extract i (i + x.size)).toList = x.toList ↔ atL (s.data.toList.drop i) x = true := by
  rw [Lib.toList_data, Lib.toList_data, extract_list, show i + x.size - i = x.size by omega]
  unfold atL
  rw [decide_eq_true_eq]
theorem refSign_loop (s : ByteArray) (hs : s.size ≤ 1000000) (i : Nat) (hi : i ≤ s.size) (l : List ByteArray) (hl : l.length ≤ maxLen) (hx : ∀ x ∈ l, x.size ≤ 100) : ∀ (d j : Nat) (b : ByteArray), j + d = l.length →
    Ev (fun k => sequiturref03_sign.l0 k s i b l j) (signGo (s.data.toList.drop i) b (l.drop j))
  | 0, j, b, h => by
    refine Ev.step (f := fun _ => some b) (fun k => ?_) (Ev.some_ ?_)
    · simp only [sequiturref03_sign.l0]; rw [if_neg (by omega)]
    · rw [show l.drop j = [] from List.drop_eq_nil_of_le (by omega)]; rfl
  | d + 1, j, b, h => by
    have hl2 := hl
    unfold maxLen at hl2
    have hsz := hx l[j] (List.getElem_mem (by omega))
    have hlist := size_list s
    have hxl := size_list l[j]
    refine Ev.step (f := fun k => if (b.size : Int) < (l[j].size : Int) then (if atL (s.data.toList.drop i) l[j] = true then sequiturref03_sign.l0 k s i l[j] l ((j + 1 : Nat) : Int) else sequiturref03_sign.l0 k s i b l ((j + 1 : Nat) : Int)) else sequiturref03_sign.l0 k s i b l ((j + 1 : Nat) : Int)) (fun k => ?_) ?_
    · simp only [sequiturref03_sign.l0]
      rw [if_pos (by omega), if_pos (by omega), rd_at l j (by omega), wrap_succ j (by omega), wrap_in ((i : Int) + _) (by omega) (by omega)]
      by_cases e : (b.size : Int) < (l[j].size : Int)
      · rw [if_pos (show (l[j].size : Int) > b.size from e), if_pos e]
        by_cases g : i + l[j].size ≤ s.size
        · rw [if_pos (by omega), if_pos (by omega), if_pos (by omega), Int.toNat_natCast, show ((i : Int) + (l[j].size : Nat)).toNat = i + l[j].size by omega]
          by_cases f : atL (s.data.toList.drop i) l[j] = true
          · rw [if_pos ((at_extract s i _ g).2 f), if_pos f]
          · rw [if_neg (fun h => f ((at_extract s i _ g).1 h)), if_neg f]
        · rw [if_neg (by omega), if_neg]
          unfold atL
          rw [decide_eq_true_eq]
          intro he
          have := congrArg List.length he
          rw [List.length_take, List.length_drop] at this
          omega
      · rw [if_neg (show ¬ (l[j].size : Int) > b.size from e), if_neg e]
    · rw [show l.drop j = l[j] :: l.drop (j + 1) from List.drop_eq_getElem_cons (show j < l.length by omega), signGo]
      by_cases e : b.size < l[j].size
      · refine Ev.pos (by omega) ?_
        by_cases f : atL (s.data.toList.drop i) l[j] = true
        · rw [if_pos ⟨e, f⟩]; exact Ev.pos f (refSign_loop s hs i hi l hl hx d (j + 1) _ (by omega))
        · rw [if_neg (fun h => f h.2)]; exact Ev.neg f (refSign_loop s hs i hi l hl hx d (j + 1) _ (by omega))
      · rw [if_neg (fun h => e h.1)]; exact Ev.neg (by omega) (refSign_loop s hs i hi l hl hx d (j + 1) _ (by omega))
theorem refSign_ev (s : ByteArray) (hs : s.size ≤ 1000000) (i : Nat) (hi : i ≤ s.size) : Ev (fun k => sequiturref03_sign.f k s i) (signS (s.data.toList.drop i)) := by
  unfold sequiturref03_sign.f
  rw [refSigns_f]
  simp only [Option.bind_some]
  exact refSign_loop s hs i hi signsB (by unfold maxLen; decide) (by decide) signsB.length 0 _ (by omega)

/-! ### one token -/
/-- The token at the head of l (c is its first byte), which stands at place p. -/
def tokS (c : Int) (l : List UInt8) (p : Int) : Int × ByteArray × Int × Int :=
  if letterI c = true then (if runL innerI l > 32 then (0, (⟨#[]⟩ : ByteArray), 0, 2) else (1, ⟨(l.take (runL innerI l)).toArray⟩, p, 0))
  else if digitI c = true then (2, ⟨(l.take (runL digitI l)).toArray⟩, p, 0)
  else if signS l = (⟨#[]⟩ : ByteArray) then (0, (⟨#[]⟩ : ByteArray), 0, 7) else (3, signS l, p, 0)
theorem letter_f (c : Int) : token_letter.f c = some (letterI c) := by
  unfold token_letter.f letterI
  by_cases h1 : 65 ≤ c <;> by_cases h2 : c ≤ 90 <;> by_cases h3 : 97 ≤ c <;> by_cases h4 : c ≤ 122 <;> by_cases h5 : c = 95 <;> simp [h1, h2, h3, h4, h5]
theorem digit_f (c : Int) : token_digit.f c = some (digitI c) := by
  unfold token_digit.f digitI
  by_cases h1 : 48 ≤ c <;> by_cases h2 : c ≤ 57 <;> simp [h1, h2]
theorem refLetter_f (c : Int) : sequiturref03_Letter.f c = some (letterI c) := letter_f c
theorem refDigit_f (c : Int) : sequiturref03_Digit.f c = some (digitI c) := digit_f c
theorem inner_f (s : ByteArray) (hs : s.size ≤ maxLen) (i : Nat) (h : i ≤ s.size) : token_run_inner.f s (i : Int) = some ((runL innerI (s.data.toList.drop i) : Nat) : Int) := by
  unfold maxLen at hs
  unfold token_run_inner.f runFrom
  rw [if_pos ⟨by omega, by omega, by omega⟩, Int.toNat_natCast]
theorem rdigit_f (s : ByteArray) (hs : s.size ≤ maxLen) (i : Nat) (h : i ≤ s.size) : token_run_digit.f s (i : Int) = some ((runL digitI (s.data.toList.drop i) : Nat) : Int) := by
  unfold maxLen at hs
  unfold token_run_digit.f runFrom
  rw [if_pos ⟨by omega, by omega, by omega⟩, Int.toNat_natCast]
theorem ba_mk (s : ByteArray) : (⟨s.data.toList.toArray⟩ : ByteArray) = s := by cases s; simp
theorem extract_take (s : ByteArray) (i n : Nat) : s.extract i (i + n) = ⟨((s.data.toList.drop i).take n).toArray⟩ := by
  rw [← ba_mk (s.extract i (i + n)), extract_list, show i + n - i = n by omega]
theorem next_ev (s : ByteArray) (hs : s.size ≤ maxLen) (i : Nat) (hi : i < s.size) : Ev (fun k => token_next.f k s i) (tokS (bt s i) (s.data.toList.drop i) i) := by
  have hs2 := hs
  have hz := size_list s
  unfold maxLen at hs2
  have h1 := runL_le innerI (s.data.toList.drop i)
  have h2 := runL_le digitI (s.data.toList.drop i)
  rw [List.length_drop] at h1 h2
  obtain ⟨K1, e1⟩ := sign_ev s hs i (Nat.le_of_lt hi)
  replace e1 : ∀ k, K1 ≤ k → token_sign.f k s i = some (signS (s.data.toList.drop i)) := e1
  refine ⟨K1, fun k hk => ?_⟩
  replace e1 := e1 k hk
  show token_next.f k s i = some (tokS (bt s i) (s.data.toList.drop i) i)
  unfold tokS
  generalize signS (s.data.toList.drop i) = x at e1 ⊢
  rw [token_next.f, if_pos (show (0 : Int) ≤ i by clear h1 h2; omega), if_pos (show (i : Int) < s.size by clear h1 h2; omega), letter_f, Option.bind_some]
  by_cases hL : letterI (bt s i) = true
  · rw [if_pos hL, if_pos hL, inner_f s hs i (Nat.le_of_lt hi), Option.bind_some]
    clear h2
    generalize runL innerI (s.data.toList.drop i) = n at h1 ⊢
    have w1 : wrap64 ((i : Int) + (n : Nat)) = ((i + n : Nat) : Int) := by rw [wrap_in _ (by omega) (by omega)]; omega
    by_cases h32 : n > 32
    · rw [if_pos h32, if_pos (by omega)]
    · rw [if_neg h32, if_neg (by omega), w1, if_pos (by omega), if_pos (by omega), Int.toNat_natCast, Int.toNat_natCast, extract_take]
  · rw [if_neg hL, if_neg hL, digit_f, Option.bind_some]
    by_cases hD : digitI (bt s i) = true
    · rw [if_pos hD, if_pos hD, rdigit_f s hs i (Nat.le_of_lt hi), Option.bind_some]
      clear h1
      generalize runL digitI (s.data.toList.drop i) = n at h2 ⊢
      have w1 : wrap64 ((i : Int) + (n : Nat)) = ((i + n : Nat) : Int) := by rw [wrap_in _ (by omega) (by omega)]; omega
      rw [w1, if_pos (by omega), if_pos (by omega), Int.toNat_natCast, Int.toNat_natCast, extract_take]
    · rw [if_neg hD, if_neg hD, e1, Option.bind_some]
      by_cases e : x = (⟨#[]⟩ : ByteArray)
      · rw [if_pos e, if_pos ((ba_lit x []).2 e)]
      · rw [if_neg e, if_neg (fun h => e ((ba_lit x []).1 h))]
end Go.Proofs.YtgajmlkhfjlojaaDoor.Pure
