/-
  Layer 5: names, words, lists of names: what the program's functions and the reference's tell.
-/
import Derived.Test.YtdnlaeefalmgpaaDoorPureTok
import Derived.Test.YtdnlaeefalmgpaaDoorPrint1
import Derived.Test.YtdnlaeefalmgpaaDoorPrint2
import Derived.Test.YtdnlaeefalmgpaaDoorPrint3
import Derived.Test.YtdnlaeefalmgpaaDoorPrint4
import Derived.Test.YtdnlaeefalmgpaaDoorWord
namespace Go.Proofs.YtdnlaeefalmgpaaDoor.Pure
set_option linter.unusedVariables false
set_option linter.unusedSimpArgs false
open Go.RowKit Go.Proofs.YtdnlaeefalmgpaaDoor.Print Go.Proofs.YtdnlaeefalmgpaaDoor.Spec Go.Proofs.YtdnlaeefalmgpaaDoor.Aux Go.Proofs.YtdnlaeefalmgpaaDoorW.PrintWords Go.Proofs.YtdnlaeefalmgpaaDoorW.PrintLast Go.Proofs.YtdnlaeefalmgpaaDoorW.PrintMore

/-- May a text be a sort's name? -/
def mayS (a : ByteArray) : Bool := nameL a.data.toList && (!wordL a.data.toList && (!decide (a.toList = ([66, 111, 111, 108] : List UInt8)) && (a.toList != ([73, 110, 116] : List UInt8))))
theorem may_f (a : ByteArray) : sorts_may.f a = some (mayS a) := by
  unfold sorts_may.f token_Name.f token_Word.f mayS
  cases hn : nameL a.data.toList
  · simp
  · have := nameL_size a hn
    rw [if_pos (by omega)]
    cases wordL a.data.toList
    · by_cases hb : a.toList = ([66, 111, 111, 108] : List UInt8) <;> simp [hb]
    · simp
theorem hasB_mk (L : List (List UInt8)) (a : ByteArray) : hasB (L.map fun l => ⟨l.toArray⟩) a = L.contains a.data.toList := by
  induction L with
  | nil => rfl
  | cons x L ih =>
    rw [List.map_cons, hasB_cons, ih, List.contains_cons]
    congr 1
    rw [Bool.eq_iff_iff]
    simp only [decide_eq_true_eq, beq_iff_eq]
    rw [← ba_data]
    simp [eq_comm]
theorem refWord_ev (a : ByteArray) : Ev (fun k => sequiturref05_Word.f k a) (wordL a.data.toList) := by
  have h := has_ev wordsB a (by rw [wordsB_length]; decide)
  have e : hasB wordsB a = wordL a.data.toList := hasB_mk wordList a
  rw [e] at h
  refine Ev.congr (fun k => ?_) h
  have hk : sequiturref05_Word.f k a = (sequiturbase_Has.f k wordsB a).bind fun t => some t := rfl
  show sequiturref05_Word.f k a = sequiturbase_Has.f k wordsB a
  rw [hk]
  cases sequiturbase_Has.f k wordsB a <;> rfl
theorem refName_ev (a : ByteArray) (ha : a.size ≤ maxLen) : Ev (fun k => sequiturref05_Name.f k a) (mayS a) := by
  obtain ⟨K, h⟩ := ev2 (name_ev a ha) (refWord_ev a)
  refine ⟨K, fun k hk => ?_⟩
  obtain ⟨h1, h2⟩ := h k hk
  simp only [sequiturref05_Name.f, h1, h2, Option.bind_some, mayS]
  cases nameL a.data.toList <;> cases wordL a.data.toList <;> by_cases hb : a.toList = ([66, 111, 111, 108] : List UInt8) <;> simp [hb]
theorem index_loop (l : List ByteArray) (s : ByteArray) (hl : l.length ≤ maxLen) : ∀ (d i : Nat), i + d = l.length → Ev (fun k => slices_Index_string_string.l0 k l s l.length i) (idxFrom (fun x => decide (x = s)) (l.drop i) i)
  | 0, i, h => by
    refine Ev.step (f := fun _ => some (-1)) (fun k => ?_) (Ev.some_ ?_)
    · simp only [slices_Index_string_string.l0]; rw [if_neg (by omega)]
    · rw [List.drop_eq_nil_of_le (by omega)]; rfl
  | d + 1, i, h => by
    unfold maxLen at hl
    have ih := index_loop l s hl d (i + 1) (by omega)
    refine Ev.step (f := fun k => if s = l[i] then some (i : Int) else slices_Index_string_string.l0 k l s l.length ((i + 1 : Nat) : Int)) (fun k => ?_) ?_
    · simp only [slices_Index_string_string.l0]
      rw [if_pos (by omega), if_pos (by omega), if_pos (by omega), rd_at l i (by omega), wrap_succ i (by omega)]
      simp only [ba_eq]
    · rw [List.drop_eq_getElem_cons (show i < l.length by omega), idxFrom]
      by_cases e : s = l[i]
      · exact Ev.pos e (Ev.some_ (by simp [e]))
      · exact Ev.neg e (Ev.get ih (by rw [if_neg (by simpa using Ne.symm e)]; rfl))
theorem idxFrom_has (s : ByteArray) : ∀ (l : List ByteArray) (i : Nat), decide (idxFrom (fun x => decide (x = s)) l i ≥ 0) = hasB l s
  | [], i => rfl
  | x :: l, i => by
    rw [idxFrom, hasB_cons]
    by_cases e : x = s
    · simp [e]
    · have := idxFrom_has s l (i + 1)
      simp only [e, decide_false, Bool.false_or]
      exact this
theorem contains_ev (l : List ByteArray) (s : ByteArray) (hl : l.length ≤ maxLen) : Ev (fun k => slices_Contains_string_string.f k l s) (hasB l s) := by
  have h := index_loop l s hl l.length 0 (by omega)
  rw [List.drop_zero] at h
  refine Ev.bind h (Ev.some_ (idxFrom_has s l 0))
/-- What the check of a list answers: the ones ahead, the ones to come. -/
def rightGo : List ByteArray → List ByteArray → Int
  | _, [] => 0
  | pre, x :: l => if mayS x then (if hasB pre x then 4 else rightGo (pre ++ [x]) l) else 10
def rightS (l : List ByteArray) : Int := if l.length > 64 then 2 else rightGo [] l
/-- A list with a sort more. -/
def putS (l : List ByteArray) (s : ByteArray) : List ByteArray × Int := if mayS s then (if hasB l s then ([], 4) else if l.length ≥ 64 then ([], 2) else (l ++ [s], 0)) else ([], 10)
theorem put_ev (l : List ByteArray) (s : ByteArray) (hl : l.length ≤ maxLen) : Ev (fun k => sorts_Put.f k l s) (putS l s) := by
  unfold sorts_Put.f putS
  simp only [may_f, Option.bind_some]
  by_cases e : mayS s = true
  · simp only [if_pos e]
    refine Ev.bind (contains_ev l s hl) ?_
    by_cases e2 : hasB l s = true
    · simp only [if_pos e2]; exact Ev.now _
    · simp only [if_neg e2]
      by_cases e3 : l.length ≥ 64
      · simp only [if_pos e3, if_pos (show (l.length : Int) ≥ 64 by omega)]; exact Ev.now _
      · have hw : wrap64 ((l.length : Int) + 1) = (l.length : Int) + 1 := wrap_in _ (by omega) (by omega)
        simp only [if_neg e3, if_neg (show ¬ (l.length : Int) ≥ 64 by omega), hw, if_pos (show (0 : Int) ≤ (l.length : Int) + 1 by omega), if_pos (show ((l.length : Int) + 1).toNat ≤ 17592186044416 by omega), List.replicate_zero, List.nil_append, List.length_nil]
        exact Ev.pos (by omega) (Ev.pos (by omega) (Ev.now _))
  · simp only [if_neg e]; exact Ev.now _
theorem refPut_ev (l : List ByteArray) (s : ByteArray) (hl : l.length ≤ maxLen) (hs : s.size ≤ maxLen) : Ev (fun k => sequiturref05_Put.f k l s) (putS l s) := by
  unfold sequiturref05_Put.f putS
  refine Ev.bind (refName_ev s hs) ?_
  by_cases e : mayS s = true
  · simp only [if_pos e]
    refine Ev.bind (has_ev l s hl) ?_
    by_cases e2 : hasB l s = true
    · simp only [if_pos e2]; exact Ev.now _
    · simp only [if_neg e2]
      by_cases e3 : l.length ≥ 64
      · simp only [if_pos e3, if_pos (show (l.length : Int) ≥ 64 by omega)]; exact Ev.now _
      · simp only [if_neg e3, if_neg (show ¬ (l.length : Int) ≥ 64 by omega), List.nil_append, List.length_nil, Option.bind_some]
        exact Ev.pos (by omega) (Ev.pos (by omega) (Ev.now _))
  · simp only [if_neg e]; exact Ev.now _
def allS (l : List ByteArray) : List ByteArray := [(⟨#[66, 111, 111, 108]⟩ : ByteArray), (⟨#[73, 110, 116]⟩ : ByteArray)] ++ l
theorem all_f (l : List ByteArray) (hl : l.length ≤ 300) : sorts_All.f l = some (allS l) := by
  unfold sorts_All.f
  simp only [Option.bind_some, List.length_cons, List.length_nil]
  rw [if_pos (by omega)]; rfl
def placeS (l : List ByteArray) (s : ByteArray) : Int := idxFrom (fun x => decide (x = s)) (allS l) 0
theorem place_f (l : List ByteArray) (s : ByteArray) (hl : l.length ≤ 300) : sorts_Place.f l s = some (placeS l s) := by
  unfold sorts_Place.f placeS idxBy
  rw [all_f l hl, Option.bind_some]
  simp only [ba_beq]
theorem known_f (l : List ByteArray) (s : ByteArray) (hl : l.length ≤ 300) : sorts_Known.f l s = some (hasB (allS l) s) := by
  unfold sorts_Known.f
  rw [place_f l s hl, Option.bind_some]
  exact congrArg some (idxFrom_has s (allS l) 0)
theorem strings_loop (l m : List ByteArray) (hl : l.length ≤ maxLen) (hlm : l.length = m.length) : ∀ (d i : Nat), i + d = l.length → Ev (fun k => sequiturbase_Strings.l0 k l m i) (decide (l.drop i = m.drop i))
  | 0, i, h => by
    refine Ev.step (f := fun _ => some true) (fun k => ?_) (Ev.some_ ?_)
    · simp only [sequiturbase_Strings.l0]; rw [if_neg (by omega)]
    · rw [List.drop_eq_nil_of_le (by omega), List.drop_eq_nil_of_le (by omega)]; rfl
  | d + 1, i, h => by
    unfold maxLen at hl
    have ih := strings_loop l m hl hlm d (i + 1) (by omega)
    refine Ev.step (f := fun k => if l[i] = m[i] then sequiturbase_Strings.l0 k l m ((i + 1 : Nat) : Int) else some false) (fun k => ?_) ?_
    · simp only [sequiturbase_Strings.l0]
      rw [if_pos (by omega), if_pos (by omega), if_pos (by omega), rd_at l i (by omega), rd_at m i (by omega), wrap_succ i (by omega)]
      simp only [ba_eq]
    · rw [List.drop_eq_getElem_cons (show i < l.length by omega), List.drop_eq_getElem_cons (show i < m.length by omega)]
      by_cases e : l[i] = m[i]
      · exact Ev.pos e (Ev.get ih (by simp only [e, List.cons.injEq, true_and]))
      · exact Ev.neg e (Ev.some_ (by simp only [List.cons.injEq, e, false_and, decide_false]))
theorem strings_ev (l m : List ByteArray) (hl : l.length ≤ maxLen) : Ev (fun k => sequiturbase_Strings.f k l m) (decide (l = m)) := by
  unfold sequiturbase_Strings.f
  by_cases h : l.length = m.length
  · exact Ev.pos (by omega) (strings_loop l m hl h l.length 0 (by omega))
  · exact Ev.neg (by omega) (Ev.some_ (by symm; rw [decide_eq_false_iff_not]; rintro rfl; exact h rfl))
end Go.Proofs.YtdnlaeefalmgpaaDoor.Pure
