/-
  Layer 6: what the functions of a signature tell, the program's and the reference's, each by one plain word.
-/
-- NEEDS sequiturlaw06_alive
import Derived.Test.YtdnlaeefalmgpaaDoorPureSortBase
import Derived.Test.YtdnlaeefalmgpaaDoorPrint1
import Derived.Test.YtdnlaeefalmgpaaDoorPrint2
import Derived.Test.YtdnlaeefalmgpaaDoorPrint3
import Derived.Test.YtdnlaeefalmgpaaDoorPrint4
namespace Go.Proofs.YtdnlaeefalmgpaaDoor.Pure
set_option linter.unusedVariables false
set_option linter.unusedSimpArgs false
open Go.RowKit Go.Proofs.YtdnlaeefalmgpaaDoor.Print Go.Proofs.YtdnlaeefalmgpaaDoor.Spec Go.Proofs.YtdnlaeefalmgpaaDoor.Aux Go.Proofs.YtdnlaeefalmgpaaDoorW.PrintWords Go.Proofs.YtdnlaeefalmgpaaDoorW.PrintLast Go.Proofs.YtdnlaeefalmgpaaDoorW.PrintMore

instance decS33 : DecidableEq S33 := fun a b => decidable_of_iff (a.f0 = b.f0 ∧ a.f1 = b.f1 ∧ a.f2 = b.f2) ⟨fun h => by cases a; cases b; simp_all, fun h => h ▸ ⟨rfl, rfl, rfl⟩⟩
theorem rdT_at (l : List S33) (i : Nat) (h : i < l.length) : rd_T33 l (i : Int) = l[i] := by
  unfold rd_T33
  rw [Int.toNat_natCast, List.getD, List.getElem?_eq_getElem h]; rfl
/-- The first function of a name. -/
def findS (fs : List S33) (s : ByteArray) : Option S33 := fs.find? fun f => decide (f.f0 = s)
def foundS : Option S33 → ByteArray × List ByteArray × ByteArray × Bool
  | some f => (f.f0, f.f1, f.f2, true)
  | none => ((⟨#[]⟩ : ByteArray), ([] : List ByteArray), (⟨#[]⟩ : ByteArray), false)
theorem find_loop (fs : List S33) (s : ByteArray) (hl : fs.length ≤ maxLen) : ∀ (d i : Nat), i + d = fs.length → Ev (fun k => sign_Find.l0 k s fs fs.length i) (foundS (findS (fs.drop i) s))
  | 0, i, h => by
    refine Ev.step (f := fun _ => some (foundS none)) (fun k => ?_) (Ev.some_ ?_)
    · simp only [sign_Find.l0]; rw [if_neg (by omega)]; rfl
    · rw [List.drop_eq_nil_of_le (by omega)]; rfl
  | d + 1, i, h => by
    unfold maxLen at hl
    have ih := find_loop fs s hl d (i + 1) (by omega)
    refine Ev.step (f := fun k => if fs[i].f0 = s then some (foundS (some fs[i])) else sign_Find.l0 k s fs fs.length ((i + 1 : Nat) : Int)) (fun k => ?_) ?_
    · simp only [sign_Find.l0]
      rw [if_pos (by omega), if_pos (by omega), if_pos (by omega), rdT_at fs i (by omega), wrap_succ i (by omega)]
      simp only [ba_eq]; rfl
    · rw [List.drop_eq_getElem_cons (show i < fs.length by omega), findS, List.find?_cons]
      by_cases e : fs[i].f0 = s
      · exact Ev.pos e (Ev.some_ (by simp [e]))
      · exact Ev.neg e (Ev.get ih (by simp only [e, decide_false]; rfl))
theorem find_ev (sorts : List ByteArray) (fs : List S33) (s : ByteArray) (hl : fs.length ≤ maxLen) : Ev (fun k => sign_Find.f k sorts fs s) (foundS (findS fs s)) :=
  find_loop fs s hl fs.length 0 (by omega)
theorem refPlaceF_loop (fs : List S33) (s : ByteArray) (hl : fs.length ≤ maxLen) : ∀ (d i : Nat), i + d = fs.length → Ev (fun k => sequiturref06_Place.l0 k fs s i) (idxFrom (fun f => decide (f.f0 = s)) (fs.drop i) i)
  | 0, i, h => by
    refine Ev.step (f := fun _ => some (-1)) (fun k => ?_) (Ev.some_ ?_)
    · simp only [sequiturref06_Place.l0]; rw [if_neg (by omega)]
    · rw [List.drop_eq_nil_of_le (by omega)]; rfl
  | d + 1, i, h => by
    unfold maxLen at hl
    have ih := refPlaceF_loop fs s hl d (i + 1) (by omega)
    refine Ev.step (f := fun k => if fs[i].f0 = s then some (i : Int) else sequiturref06_Place.l0 k fs s ((i + 1 : Nat) : Int)) (fun k => ?_) ?_
    · simp only [sequiturref06_Place.l0]
      rw [if_pos (by omega), if_pos (by omega), rdT_at fs i (by omega), wrap_succ i (by omega)]
      simp only [ba_eq]
    · rw [List.drop_eq_getElem_cons (show i < fs.length by omega), idxFrom]
      by_cases e : fs[i].f0 = s
      · exact Ev.pos e (Ev.some_ (by simp [e]))
      · exact Ev.neg e (Ev.get ih (by rw [if_neg (by simpa using e)]; rfl))
def placeF (fs : List S33) (s : ByteArray) : Int := idxFrom (fun f => decide (f.f0 = s)) fs 0
theorem refPlaceF_ev (fs : List S33) (s : ByteArray) (hl : fs.length ≤ maxLen) : Ev (fun k => sequiturref06_Place.f k fs s) (placeF fs s) := refPlaceF_loop fs s hl fs.length 0 (by omega)
theorem idx_find (s : ByteArray) : ∀ (fs : List S33) (i : Nat), (findS fs s = none ∧ idxFrom (fun f : S33 => decide (f.f0 = s)) fs (i : Int) = -1) ∨ ∃ (j : Nat) (h : j < fs.length), idxFrom (fun f : S33 => decide (f.f0 = s)) fs (i : Int) = ((i + j : Nat) : Int) ∧ findS fs s = some fs[j]
  | [], i => .inl ⟨rfl, rfl⟩
  | f :: fs, i => by
    by_cases e : f.f0 = s
    · refine .inr ⟨0, by simp, ?_, ?_⟩
      · simp [idxFrom, e]
      · simp [findS, List.find?_cons, e]
    · have hi : idxFrom (fun f : S33 => decide (f.f0 = s)) (f :: fs) (i : Int) = idxFrom (fun f : S33 => decide (f.f0 = s)) fs ((i + 1 : Nat) : Int) := by
        rw [idxFrom, if_neg (by simpa using e)]; rfl
      have hf : findS (f :: fs) s = findS fs s := by unfold findS; rw [List.find?_cons]; simp [e]
      rw [hi, hf]
      rcases idx_find s fs (i + 1) with h | ⟨j, hj, h1, h2⟩
      · exact .inl h
      · refine .inr ⟨j + 1, by simp; omega, ?_, ?_⟩
        · rw [h1]; congr 1; omega
        · rw [h2]; rfl
theorem placeF_find (fs : List S33) (s : ByteArray) : (findS fs s = none ∧ placeF fs s = -1) ∨ ∃ (j : Nat) (h : j < fs.length), placeF fs s = (j : Int) ∧ findS fs s = some fs[j] := by
  rcases idx_find s fs 0 with h | ⟨j, hj, h1, h2⟩
  · exact .inl h
  · refine .inr ⟨j, hj, ?_, h2⟩
    unfold placeF
    rw [show (0 : Int) = ((0 : Nat) : Int) by rfl, h1]; congr 1; omega
theorem found_some (o : Option S33) : (foundS o).2.2.2 = o.isSome := by cases o <;> rfl
/-- May a text be a function's name? -/
def nameS (a : ByteArray) : Bool := nameL a.data.toList && !wordL a.data.toList
theorem nameW_ev {α : Type} {X : Nat → Bool → Option α} {a : ByteArray} {r : α} (h : Ev (fun k => X k (!nameS a)) r) :
    Ev (fun k => (token_Name.f a).bind fun t => if t = true then ((token_Word.f a).bind fun u => X k u) else X k true) r := by
  refine Ev.congr (fun k => ?_) h
  unfold token_Name.f token_Word.f nameS
  cases hn : nameL a.data.toList
  · simp
  · have := nameL_size a hn
    rw [if_pos (by omega)]
    simp
theorem refNameW_ev {α : Type} {X : Nat → Bool → Option α} {a : ByteArray} {r : α} (ha : a.size ≤ maxLen) (h : Ev (fun k => X k (!nameS a)) r) :
    Ev (fun k => (sequiturbase_Name.f k a).bind fun t => if t = true then ((sequiturref05_Word.f k a).bind fun u => X k u) else X k true) r := by
  refine Ev.bind (name_ev a ha) ?_
  unfold nameS at h
  cases hn : nameL a.data.toList
  · rw [hn] at h; exact Ev.neg (by simp) h
  · rw [hn] at h
    refine Ev.pos rfl (Ev.bind (refWord_ev a) ?_)
    simpa using h
def boolB : ByteArray := ⟨#[66, 111, 111, 108]⟩
theorem bool_iff (a : ByteArray) : a.toList = ([66, 111, 111, 108] : List UInt8) ↔ a = boolB := ba_lit a _
/-- What the check of a function's sorts answers. -/
def argsS (sorts : List ByteArray) (r : ByteArray) : List ByteArray → Int
  | [] => if hasB (allS sorts) r then 0 else 11
  | a :: t => if a = boolB then 11 else if hasB (allS sorts) a then argsS sorts r t else 11
def checkS (sorts : List ByteArray) (g : S33) : Int := if nameS g.f0 then (if g.f1.length > 8 then 12 else argsS sorts g.f2 g.f1) else 10
theorem check_loop (sorts : List ByteArray) (fs : List S33) (n : ByteArray) (l : List ByteArray) (r : ByteArray) (hs : sorts.length ≤ 300) (hl : l.length ≤ maxLen) : ∀ (d i : Nat), i + d = l.length → Ev (fun k => sign_Check.l0 k l l.length i sorts fs n l r) (argsS sorts r (l.drop i))
  | 0, i, h => by
    refine Ev.step (f := fun _ => if hasB (allS sorts) r = true then some 0 else some 11) (fun k => ?_) ?_
    · simp only [sign_Check.l0]; rw [if_neg (by omega), known_f sorts r hs]; rfl
    · rw [List.drop_eq_nil_of_le (by omega), argsS]
      by_cases e : hasB (allS sorts) r = true
      · exact Ev.pos e (Ev.some_ (by rw [if_pos e]))
      · exact Ev.neg e (Ev.some_ (by rw [if_neg e]))
  | d + 1, i, h => by
    unfold maxLen at hl
    have ih := check_loop sorts fs n l r hs hl d (i + 1) (by omega)
    refine Ev.step (f := fun k => if l[i] = boolB then some 11 else if hasB (allS sorts) l[i] = true then sign_Check.l0 k l l.length ((i + 1 : Nat) : Int) sorts fs n l r else some 11) (fun k => ?_) ?_
    · simp only [sign_Check.l0]
      rw [if_pos (by omega), if_pos (by omega), if_pos (by omega), rd_at l i (by omega), wrap_succ i (by omega), known_f sorts _ hs]
      simp only [bool_iff, Option.bind_some]
    · rw [List.drop_eq_getElem_cons (show i < l.length by omega), argsS]
      by_cases e : l[i] = boolB
      · exact Ev.pos e (Ev.some_ (by rw [if_pos e]))
      · refine Ev.neg e ?_
        rw [if_neg e]
        by_cases e2 : hasB (allS sorts) l[i] = true
        · exact Ev.pos e2 (Ev.get ih (by rw [if_pos e2]))
        · exact Ev.neg e2 (Ev.some_ (by rw [if_neg e2]))
theorem check_ev (sorts : List ByteArray) (fs : List S33) (n : ByteArray) (l : List ByteArray) (r : ByteArray) (hs : sorts.length ≤ 300) (hl : l.length ≤ maxLen) : Ev (fun k => sign_Check.f k sorts fs n l r) (checkS sorts ⟨n, l, r⟩) := by
  unfold sign_Check.f checkS
  refine nameW_ev (X := fun k u => sign_Check.j0 k u sorts fs n l r) ?_
  cases hn : nameS n
  · refine Ev.step (f := fun _ => some 10) (fun k => ?_) (Ev.some_ ?_)
    · simp only [sign_Check.j0, hn, Bool.not_false, if_true]
    · simp [hn]
  · refine Ev.step (f := fun k => if (l.length : Int) > 8 then some 12 else sign_Check.l0 k l l.length 0 sorts fs n l r) (fun k => ?_) ?_
    · simp only [sign_Check.j0, hn, Bool.not_true, Bool.false_eq_true, if_false]
    · simp only [if_true]
      by_cases h : l.length > 8
      · exact Ev.pos (by omega) (Ev.some_ (by rw [if_pos h]))
      · exact Ev.neg (by omega) (Ev.get (check_loop sorts fs n l r hs hl l.length 0 (by omega)) (by rw [if_neg h]; rfl))
theorem refKnown_ev (sorts : List ByteArray) (s : ByteArray) (hs : sorts.length ≤ maxLen) : Ev (fun k => sequiturref06_Known.f k sorts s) (hasB (allS sorts) s) := by
  unfold sequiturref06_Known.f allS
  simp only [ba_lit, List.cons_append, List.nil_append, hasB_cons]
  by_cases e : s = ⟨#[66, 111, 111, 108]⟩
  · exact Ev.pos e (Ev.some_ (by rw [decide_eq_true e.symm]; rfl))
  · refine Ev.neg e ?_
    rw [decide_eq_false (Ne.symm e), Bool.false_or]
    by_cases e2 : s = ⟨#[73, 110, 116]⟩
    · exact Ev.pos e2 (Ev.some_ (by rw [decide_eq_true e2.symm]; rfl))
    · refine Ev.neg e2 ?_
      rw [decide_eq_false (Ne.symm e2), Bool.false_or]
      exact Ev.bind (has_ev sorts s hs) (Ev.now _)
theorem refCheck_loop (sorts : List ByteArray) (fs : List S33) (n : ByteArray) (l : List ByteArray) (r : ByteArray) (hs : sorts.length ≤ maxLen) (hl : l.length ≤ maxLen) : ∀ (d i : Nat), i + d = l.length → Ev (fun k => sequiturref06_Check.l0 k i sorts fs n l r) (argsS sorts r (l.drop i))
  | 0, i, h => by
    refine Ev.step (f := fun k => (sequiturref06_Known.f k sorts r).bind fun t => if t = true then some 0 else some 11) (fun k => ?_) (Ev.bind (refKnown_ev sorts r hs) ?_)
    · simp only [sequiturref06_Check.l0]; rw [if_neg (by omega)]
    · rw [List.drop_eq_nil_of_le (by omega), argsS]
      by_cases e : hasB (allS sorts) r = true
      · exact Ev.pos e (Ev.some_ (by rw [if_pos e]))
      · exact Ev.neg e (Ev.some_ (by rw [if_neg e]))
  | d + 1, i, h => by
    have ih := refCheck_loop sorts fs n l r hs hl d (i + 1) (by omega)
    refine Ev.step (f := fun k => (sequiturref06_Known.f k sorts l[i]).bind fun t => if t = true then (if l[i] = boolB then some 11 else sequiturref06_Check.l0 k ((i + 1 : Nat) : Int) sorts fs n l r) else some 11) (fun k => ?_) (Ev.bind (refKnown_ev sorts _ hs) ?_)
    · unfold maxLen at hl
      simp only [sequiturref06_Check.l0]
      rw [if_pos (by omega), if_pos (by omega), rd_at l i (by omega), wrap_succ i (by omega)]
      simp only [bool_iff]
    · rw [List.drop_eq_getElem_cons (show i < l.length by omega), argsS]
      by_cases e2 : hasB (allS sorts) l[i] = true
      · refine Ev.pos e2 ?_
        by_cases e : l[i] = boolB
        · exact Ev.pos e (Ev.some_ (by rw [if_pos e]))
        · exact Ev.neg e (Ev.get ih (by rw [if_neg e, if_pos e2]))
      · exact Ev.neg e2 (Ev.some_ (by rw [if_neg e2]; simp))
theorem refCheck_ev (sorts : List ByteArray) (fs : List S33) (n : ByteArray) (l : List ByteArray) (r : ByteArray) (hs : sorts.length ≤ maxLen) (hl : l.length ≤ maxLen) (hn' : n.size ≤ maxLen) : Ev (fun k => sequiturref06_Check.f k sorts fs n l r) (checkS sorts ⟨n, l, r⟩) := by
  unfold sequiturref06_Check.f checkS
  refine refNameW_ev (X := fun k u => sequiturref06_Check.j0 k u sorts fs n l r) hn' ?_
  cases hn : nameS n
  · refine Ev.step (f := fun _ => some 10) (fun k => ?_) (Ev.some_ ?_)
    · simp only [sequiturref06_Check.j0, hn, Bool.not_false, if_true]
    · simp [hn]
  · refine Ev.step (f := fun k => if (l.length : Int) > 8 then some 12 else sequiturref06_Check.l0 k 0 sorts fs n l r) (fun k => ?_) ?_
    · simp only [sequiturref06_Check.j0, hn, Bool.not_true, Bool.false_eq_true, if_false]
    · simp only [if_true]
      by_cases h : l.length > 8
      · exact Ev.pos (by omega) (Ev.some_ (by rw [if_pos h]))
      · exact Ev.neg (by omega) (Ev.get (refCheck_loop sorts fs n l r hs hl l.length 0 (by omega)) (by rw [if_neg h]; rfl))
/-- Functions whose lists are short enough to be copied. -/
def goodF (fs : List S33) : Prop := fs.length ≤ 300 ∧ ∀ x ∈ fs, x.f1.length ≤ 300
def wideF (fs : List S33) : Prop := fs.length ≤ maxLen ∧ ∀ x ∈ fs, x.f1.length ≤ maxLen
theorem le_max {n : Nat} (h : n ≤ 300) : n ≤ maxLen := Nat.le_trans h (by decide)
theorem goodF.wide {fs : List S33} (h : goodF fs) : wideF fs := ⟨le_max h.1, fun x hx => le_max (h.2 x hx)⟩
theorem copied_loop (sorts : List ByteArray) (fs : List S33) (hl : goodF fs) : ∀ (d i : Nat), i + d = fs.length → Ev (fun k => sign_copied.l0 k fs fs.length i sorts (fs.take i)) (sorts, fs)
  | 0, i, h => by
    refine Ev.step (f := fun _ => some (sorts, fs.take i)) (fun k => ?_) (Ev.some_ ?_)
    · simp only [sign_copied.l0]; rw [if_neg (by omega)]
    · rw [List.take_of_length_le (by omega)]
  | d + 1, i, h => by
    have ih := copied_loop sorts fs hl d (i + 1) (by omega)
    refine Ev.step (f := fun k => sign_copied.l0 k fs fs.length ((i + 1 : Nat) : Int) sorts (fs.take (i + 1))) (fun k => ?_) ih
    have h1 := hl.1
    have h2 := hl.2 fs[i] (List.getElem_mem _)
    have ht : fs.take (i + 1) = fs.take i ++ [fs[i]] := List.take_succ_eq_append_getElem (by omega)
    have hlen : (fs.take i).length = i := by rw [List.length_take]; omega
    simp only [sign_copied.l0]
    rw [if_pos (by omega), if_pos (by omega), if_pos (by omega), rdT_at fs i (by omega), wrap_succ i (by omega)]
    unfold sign_fun.f
    rw [if_pos (by omega), Option.bind_some, if_pos (by omega), ht]
theorem copied_ev (sorts : List ByteArray) (fs : List S33) (hs : sorts.length ≤ 300) (hl : goodF fs) : Ev (fun k => sign_copied.f k sorts fs) (sorts, fs) := by
  unfold sign_copied.f slices_Clone_string_string.f
  rw [if_pos (by omega)]
  exact copied_loop sorts fs hl fs.length 0 (by omega)
/-- A signature with a function more. -/
def funS (sorts : List ByteArray) (fs : List S33) (g : S33) : List ByteArray × List S33 × Int :=
  if checkS sorts g = 0 then (if (findS fs g.f0).isSome then ([], [], 4) else if hasB (allS sorts) g.f0 then ([], [], 4) else if fs.length ≥ 256 then ([], [], 2) else (sorts, fs ++ [g], 0)) else ([], [], checkS sorts g)
theorem fun_ev (sorts : List ByteArray) (fs : List S33) (n : ByteArray) (l : List ByteArray) (r : ByteArray) (hs : sorts.length ≤ 300) (hf : goodF fs) (hl : l.length ≤ 300) : Ev (fun k => sign_Fun.f k sorts fs n l r) (funS sorts fs ⟨n, l, r⟩) := by
  unfold sign_Fun.f funS
  refine Ev.bind (check_ev sorts fs n l r hs (le_max hl)) ?_
  by_cases e : checkS sorts ⟨n, l, r⟩ = 0
  · refine Ev.pos e ?_
    rw [if_pos e]
    refine Ev.bind (find_ev sorts fs n (le_max hf.1)) ?_
    rw [found_some]
    by_cases e2 : (findS fs n).isSome = true
    · exact Ev.pos e2 (Ev.some_ (by rw [if_pos e2]))
    · refine Ev.neg e2 ?_
      rw [if_neg e2, known_f sorts n hs]
      simp only [Option.bind_some]
      by_cases e3 : hasB (allS sorts) n = true
      · exact Ev.pos e3 (Ev.some_ (by rw [if_pos e3]))
      · refine Ev.neg e3 ?_
        rw [if_neg e3]
        by_cases e4 : fs.length ≥ 256
        · exact Ev.pos (by omega) (Ev.some_ (by rw [if_pos e4]))
        · have h1 := hf.1
          exact Ev.neg (by omega) (Ev.bind (copied_ev sorts fs hs hf) (Ev.pos (by show l.length ≤ _ ∧ fs.length ≤ _; omega) (Ev.some_ (by rw [if_neg e4]))))
  · exact Ev.neg e (Ev.some_ (by rw [if_neg e]))
theorem refFun_loop (sorts : List ByteArray) (fs : List S33) (n : ByteArray) (l : List ByteArray) (r : ByteArray) (hf : fs.length ≤ 300) : ∀ (d i : Nat), i + d = fs.length → Ev (fun k => sequiturref06_Fun.l0 k i sorts fs n l r sorts (fs.take i)) (sorts, fs ++ [⟨n, l, r⟩], 0)
  | 0, i, h => by
    refine Ev.step (f := fun _ => some (sorts, fs ++ [⟨n, l, r⟩], 0)) (fun k => ?_) (Ev.now _)
    simp only [sequiturref06_Fun.l0]
    rw [if_neg (by omega), List.take_of_length_le (by omega), if_pos (by omega)]
  | d + 1, i, h => by
    have ih := refFun_loop sorts fs n l r hf d (i + 1) (by omega)
    refine Ev.step (f := fun k => sequiturref06_Fun.l0 k ((i + 1 : Nat) : Int) sorts fs n l r sorts (fs.take (i + 1))) (fun k => ?_) ih
    have ht : fs.take (i + 1) = fs.take i ++ [fs[i]] := List.take_succ_eq_append_getElem (by omega)
    have hlen : (fs.take i).length = i := by rw [List.length_take]; omega
    simp only [sequiturref06_Fun.l0]
    rw [if_pos (by omega), if_pos (by omega), if_pos (by omega), rdT_at fs i (by omega), wrap_succ i (by omega), ht]
theorem refFun_ev (sorts : List ByteArray) (fs : List S33) (n : ByteArray) (l : List ByteArray) (r : ByteArray) (hs : sorts.length ≤ maxLen) (hf : fs.length ≤ 300) (hl : l.length ≤ maxLen) (hn : n.size ≤ maxLen) : Ev (fun k => sequiturref06_Fun.f k sorts fs n l r) (funS sorts fs ⟨n, l, r⟩) := by
  unfold sequiturref06_Fun.f funS
  have hj : ∀ b : Bool, (b = false → Ev (fun k => if (fs.length : Int) ≥ 256 then some (([] : List ByteArray), ([] : List S33), (2 : Int)) else sequiturref06_Fun.l0 k 0 sorts fs n l r sorts []) (if fs.length ≥ 256 then ([], [], 2) else (sorts, fs ++ [⟨n, l, r⟩], 0))) → Ev (fun k => sequiturref06_Fun.j0 k b sorts fs n l r) (if b = true then ([], [], 4) else if fs.length ≥ 256 then ([], [], 2) else (sorts, fs ++ [⟨n, l, r⟩], 0)) := by
    intro b h
    cases b
    · exact Ev.step (fun k => by simp only [sequiturref06_Fun.j0, Bool.false_eq_true, if_false]) (h rfl)
    · exact Ev.step (f := fun _ => some ([], [], 4)) (fun k => by simp only [sequiturref06_Fun.j0, if_true]) (Ev.now _)
  have hgo : Ev (fun k => if (fs.length : Int) ≥ 256 then some (([] : List ByteArray), ([] : List S33), (2 : Int)) else sequiturref06_Fun.l0 k 0 sorts fs n l r sorts []) (if fs.length ≥ 256 then ([], [], 2) else (sorts, fs ++ [⟨n, l, r⟩], 0)) := by
    by_cases e4 : fs.length ≥ 256
    · exact Ev.pos (by omega) (Ev.some_ (by rw [if_pos e4]))
    · exact Ev.neg (by omega) (Ev.get (refFun_loop sorts fs n l r hf fs.length 0 (by omega)) (by rw [if_neg e4]))
  refine Ev.bind (refCheck_ev sorts fs n l r hs hl hn) ?_
  by_cases e : checkS sorts ⟨n, l, r⟩ = 0
  · refine Ev.pos e ?_
    rw [if_pos e]
    refine Ev.bind (refPlaceF_ev fs n (le_max hf)) ?_
    rcases placeF_find fs n with ⟨h1, h2⟩ | ⟨j, hj2, h1, h2⟩
    · rw [h1, h2]
      refine Ev.neg (by omega) (Ev.bind (refKnown_ev sorts n hs) ?_)
      exact Ev.get (hj _ fun _ => hgo) (by simp)
    · rw [h1, h2]
      exact Ev.pos (by omega) (Ev.get (hj true (by simp)) (by simp))
  · exact Ev.neg e (Ev.some_ (by rw [if_neg e]))
/-- A signature with a sort more. -/
def sortS (sorts : List ByteArray) (fs : List S33) (s : ByteArray) : List ByteArray × List S33 × Int :=
  if (putS sorts s).2 = 0 then (if (findS fs s).isSome then ([], [], 4) else ((putS sorts s).1, fs, 0)) else ([], [], (putS sorts s).2)
theorem putS_length (l : List ByteArray) (s : ByteArray) : (putS l s).1.length ≤ 64 := by
  unfold putS
  split
  · split
    · simp
    · split
      · simp
      · simp; omega
  · simp
theorem sort_ev (sorts : List ByteArray) (fs : List S33) (s : ByteArray) (hs : sorts.length ≤ 300) (hf : goodF fs) : Ev (fun k => sign_Sort.f k sorts fs s) (sortS sorts fs s) := by
  unfold sign_Sort.f sortS
  refine Ev.bind (put_ev sorts s (le_max hs)) ?_
  by_cases e : (putS sorts s).2 = 0
  · refine Ev.pos e ?_
    rw [if_pos e]
    refine Ev.bind (find_ev sorts fs s (le_max hf.1)) ?_
    rw [found_some]
    by_cases e2 : (findS fs s).isSome = true
    · exact Ev.pos e2 (Ev.some_ (by rw [if_pos e2]))
    · refine Ev.neg e2 (Ev.bind (copied_ev sorts fs hs hf) ?_)
      have := putS_length sorts s
      unfold slices_Clone_string_string.f
      rw [if_pos (by omega), if_neg e2]
      exact Ev.now _
  · exact Ev.neg e (Ev.some_ (by rw [if_neg e]))
theorem refSort_ev (sorts : List ByteArray) (fs : List S33) (s : ByteArray) (hs : sorts.length ≤ maxLen) (hf : fs.length ≤ maxLen) (hz : s.size ≤ maxLen) : Ev (fun k => sequiturref06_Sort.f k sorts fs s) (sortS sorts fs s) := by
  unfold sequiturref06_Sort.f sortS
  refine Ev.bind (refPut_ev sorts s hs hz) ?_
  by_cases e : (putS sorts s).2 = 0
  · refine Ev.pos e ?_
    rw [if_pos e]
    refine Ev.bind (refPlaceF_ev fs s hf) ?_
    rcases placeF_find fs s with ⟨h1, h2⟩ | ⟨j, hj2, h1, h2⟩
    · rw [h1, h2]; exact Ev.neg (by omega) (Ev.some_ (by simp))
    · rw [h1, h2]; exact Ev.pos (by omega) (Ev.some_ (by simp))
  · exact Ev.neg e (Ev.some_ (by rw [if_neg e]))
/-- The constants of a sort. -/
def constsS (s : ByteArray) (fs : List S33) : List ByteArray := (fs.filter fun f => decide (f.f1.length = 0) && decide (f.f2 = s)).map fun f => f.f0
theorem constsS_snoc (s : ByteArray) (fs : List S33) (f : S33) : constsS s (fs ++ [f]) = if f.f1.length = 0 ∧ f.f2 = s then constsS s fs ++ [f.f0] else constsS s fs := by
  unfold constsS
  rw [List.filter_append, List.map_append]
  rw [List.filter_cons]
  by_cases h1 : f.f1.length = 0
  · by_cases h2 : f.f2 = s
    · rw [if_pos (by simp only [h1, h2, decide_true, Bool.and_self]), if_pos ⟨h1, h2⟩]; rfl
    · rw [if_neg (by simp only [h2, decide_false, Bool.and_false]; decide), if_neg (fun h => h2 h.2)]; simp
  · rw [if_neg (by simp only [h1, decide_false, Bool.false_and]; decide), if_neg (fun h => h1 h.1)]; simp
theorem constsS_length (s : ByteArray) (fs : List S33) : (constsS s fs).length ≤ fs.length := by
  unfold constsS
  rw [List.length_map]
  exact List.length_filter_le _ _
theorem consts_loop (s : ByteArray) (fs : List S33) (hf : fs.length ≤ 300) : ∀ (d i : Nat), i + d = fs.length → Ev (fun k => sign_Consts.l0 k s (constsS s (fs.take i)) fs fs.length i) (constsS s fs)
  | 0, i, h => by
    refine Ev.step (f := fun _ => some (constsS s (fs.take i))) (fun k => ?_) (Ev.some_ ?_)
    · simp only [sign_Consts.l0]; rw [if_neg (by omega)]
    · rw [List.take_of_length_le (by omega)]
  | d + 1, i, h => by
    have ih := consts_loop s fs hf d (i + 1) (by omega)
    refine Ev.step (f := fun k => sign_Consts.l0 k s (constsS s (fs.take (i + 1))) fs fs.length ((i + 1 : Nat) : Int)) (fun k => ?_) ih
    have ht : fs.take (i + 1) = fs.take i ++ [fs[i]] := List.take_succ_eq_append_getElem (by omega)
    have hlen := constsS_length s (fs.take i)
    rw [List.length_take] at hlen
    simp only [sign_Consts.l0]
    rw [if_pos (by omega), if_pos (by omega), if_pos (by omega), rdT_at fs i (by omega), wrap_succ i (by omega), ht, constsS_snoc]
    simp only [ba_eq]
    by_cases h1 : fs[i].f1.length = 0
    · by_cases h2 : fs[i].f2 = s
      · rw [if_pos (by omega), if_pos h2, if_pos (by omega), if_pos ⟨h1, h2⟩]
      · rw [if_pos (by omega), if_neg h2, if_neg (fun h => h2 h.2)]
    · rw [if_neg (by omega), if_neg (fun h => h1 h.1)]
theorem consts_ev (sorts : List ByteArray) (fs : List S33) (s : ByteArray) (hf : fs.length ≤ 300) : Ev (fun k => sign_Consts.f k sorts fs s) (constsS s fs) := consts_loop s fs hf fs.length 0 (by omega)
theorem baseFun_ev (f g : S33) (hf : f.f1.length ≤ maxLen) : Ev (fun k => sequiturbase_Fun.f k f.f0 f.f1 f.f2 g.f0 g.f1 g.f2) (decide (f = g)) := by
  unfold sequiturbase_Fun.f
  simp only [ba_eq]
  have e : (f = g) ↔ (f.f0 = g.f0 ∧ f.f1 = g.f1 ∧ f.f2 = g.f2) := ⟨fun h => h ▸ ⟨rfl, rfl, rfl⟩, fun h => by cases f; cases g; simp_all⟩
  by_cases h0 : f.f0 = g.f0
  · by_cases h2 : f.f2 = g.f2
    · refine Ev.pos h0 (Ev.pos h2 (Ev.bind (strings_ev _ _ hf) (Ev.some_ ?_)))
      rw [decide_eq_decide, e]; simp [h0, h2]
    · refine Ev.pos h0 (Ev.neg h2 (Ev.some_ ?_))
      symm; rw [decide_eq_false_iff_not, e]; exact fun h => h2 h.2.2
  · refine Ev.neg h0 (Ev.some_ ?_)
    symm; rw [decide_eq_false_iff_not, e]; exact fun h => h0 h.1
theorem funs_loop (l m : List S33) (hl : goodF l) (hlm : l.length = m.length) : ∀ (d i : Nat), i + d = l.length → Ev (fun k => sequiturbase_Funs.l0 k l m i) (decide (l.drop i = m.drop i))
  | 0, i, h => by
    refine Ev.step (f := fun _ => some true) (fun k => ?_) (Ev.some_ ?_)
    · simp only [sequiturbase_Funs.l0]; rw [if_neg (by omega)]
    · rw [List.drop_eq_nil_of_le (by omega), List.drop_eq_nil_of_le (by omega)]; rfl
  | d + 1, i, h => by
    have h1 := hl.1
    have ih := funs_loop l m hl hlm d (i + 1) (by omega)
    refine Ev.step (f := fun k => (sequiturbase_Fun.f k l[i].f0 l[i].f1 l[i].f2 m[i].f0 m[i].f1 m[i].f2).bind fun t => if t = true then sequiturbase_Funs.l0 k l m ((i + 1 : Nat) : Int) else some false) (fun k => ?_) (Ev.bind (baseFun_ev l[i] m[i] (le_max (hl.2 _ (List.getElem_mem _)))) ?_)
    · simp only [sequiturbase_Funs.l0]
      rw [if_pos (by omega), if_pos (by omega), if_pos (by omega), rdT_at l i (by omega), rdT_at m i (by omega), wrap_succ i (by omega)]
    · rw [List.drop_eq_getElem_cons (show i < l.length by omega), List.drop_eq_getElem_cons (show i < m.length by omega)]
      by_cases e : l[i] = m[i]
      · exact Ev.pos (by simp [e]) (Ev.get ih (by simp only [e, List.cons.injEq, true_and]))
      · exact Ev.neg (by simp [e]) (Ev.some_ (by simp only [List.cons.injEq, e, false_and, decide_false]))
theorem funs_ev (l m : List S33) (hl : goodF l) : Ev (fun k => sequiturbase_Funs.f k l m) (decide (l = m)) := by
  unfold sequiturbase_Funs.f
  by_cases h : l.length = m.length
  · exact Ev.pos (by omega) (funs_loop l m hl h l.length 0 (by omega))
  · exact Ev.neg (by omega) (Ev.some_ (by symm; rw [decide_eq_false_iff_not]; rintro rfl; exact h rfl))
theorem baseSign_ev (a b : List ByteArray) (l m : List S33) (ha : a.length ≤ maxLen) (hl : goodF l) : Ev (fun k => sequiturbase_Sign.f k a l b m) (decide (a = b ∧ l = m)) := by
  unfold sequiturbase_Sign.f
  refine Ev.bind (strings_ev a b ha) ?_
  by_cases e : a = b
  · exact Ev.pos (by simp [e]) (Ev.bind (funs_ev l m hl) (Ev.some_ (by simp [e])))
  · exact Ev.neg (by simp [e]) (Ev.some_ (by simp [e]))
theorem any_loop {l : List ByteArray} {g : Nat → Int → Option Bool} {c : Nat → Option Bool} {r : Bool} (hl : l.length ≤ maxLen) (hg : ∀ k (i : Nat), (h : i < l.length) → g (k + 1) i = if (l[i].size : Int) > 100 then some true else g k ((i + 1 : Nat) : Int)) (h0 : Ev (fun k => g k ((l.length : Nat) : Int)) r) : ∀ (d i : Nat), i + d = l.length → Ev (fun k => g k i) ((l.drop i).any (fun x => decide (x.size > 100)) || r)
  | 0, i, h => by
    rw [List.drop_eq_nil_of_le (by omega)]
    have : i = l.length := by omega
    subst this
    exact h0
  | d + 1, i, h => by
    have ih := any_loop (c := c) hl hg h0 d (i + 1) (by omega)
    refine Ev.step (fun k => hg k i (by omega)) ?_
    rw [List.drop_eq_getElem_cons (show i < l.length by omega), List.any_cons]
    by_cases e : l[i].size > 100
    · exact Ev.pos (by omega) (Ev.some_ (by simp [e]))
    · exact Ev.neg (by omega) (Ev.get ih (by simp [e]))
/-- Is a function too long to be tried? -/
def longF (f : S33) : Bool := decide (f.f0.size > 100) || decide (f.f2.size > 100) || decide (f.f1.length > 20) || f.f1.any (fun x => decide (x.size > 100))
theorem longFun_ev (f : S33) (hl : f.f1.length ≤ maxLen) : Ev (fun k => sequiturref06_LongFun.f k f.f0 f.f1 f.f2) (longF f) := by
  unfold sequiturref06_LongFun.f longF
  have hj : Ev (fun k => sequiturref06_LongFun.j0 k true f.f0 f.f1 f.f2) true := Ev.step (fun k => by simp only [sequiturref06_LongFun.j0, if_true]) (Ev.now _)
  by_cases e0 : f.f0.size > 100
  · exact Ev.pos (by omega) (Ev.get hj (by simp [e0]))
  · refine Ev.neg (by omega) ?_
    by_cases e2 : f.f2.size > 100
    · exact Ev.pos (by omega) (Ev.get hj (by simp [e2]))
    · refine Ev.neg (by omega) ?_
      by_cases e3 : f.f1.length > 20
      · rw [decide_eq_true (show (f.f1.length : Int) > 20 by omega)]
        exact Ev.get hj (by simp [e3])
      · rw [decide_eq_false (show ¬ (f.f1.length : Int) > 20 by omega)]
        refine Ev.step (f := fun k => sequiturref06_LongFun.l0 k ((0 : Nat) : Int) f.f0 f.f1 f.f2) (fun k => by simp only [sequiturref06_LongFun.j0, Bool.false_eq_true, if_false]; rfl) ?_
        refine Ev.get (any_loop (l := f.f1) (g := fun k i => sequiturref06_LongFun.l0 k i f.f0 f.f1 f.f2) (c := fun _ => none) (r := false) hl (fun k i h => ?_) ?_ f.f1.length 0 (by omega)) ?_
        · unfold maxLen at hl
          simp only [sequiturref06_LongFun.l0]
          rw [if_pos (by omega), if_pos (by omega), rd_at f.f1 i h, wrap_succ i (by omega)]
        · exact Ev.step (f := fun _ => some false) (fun k => by simp only [sequiturref06_LongFun.l0]; rw [if_neg (by omega)]) (Ev.now _)
        · simp [e0, e2, e3]
/-- Is a signature too long to be tried? -/
def longS (sorts : List ByteArray) (fs : List S33) : Bool := decide (sorts.length > 70) || decide (fs.length > 20) || (sorts.any (fun x => decide (x.size > 100)) || fs.any longF)
theorem long_loop (sorts : List ByteArray) (fs : List S33) (hf : wideF fs) : ∀ (d i : Nat), i + d = fs.length → Ev (fun k => sequiturref06_Long.l1 k i sorts fs) ((fs.drop i).any longF)
  | 0, i, h => by
    refine Ev.step (f := fun _ => some false) (fun k => ?_) (Ev.some_ ?_)
    · simp only [sequiturref06_Long.l1]; rw [if_neg (by omega)]
    · rw [List.drop_eq_nil_of_le (by omega)]; rfl
  | d + 1, i, h => by
    have ih := long_loop sorts fs hf d (i + 1) (by omega)
    refine Ev.step (f := fun k => (sequiturref06_LongFun.f k fs[i].f0 fs[i].f1 fs[i].f2).bind fun t => if t = true then some true else sequiturref06_Long.l1 k ((i + 1 : Nat) : Int) sorts fs) (fun k => ?_) (Ev.bind (longFun_ev fs[i] (hf.2 _ (List.getElem_mem _))) ?_)
    · have h1 := hf.1
      unfold maxLen at h1
      simp only [sequiturref06_Long.l1]
      rw [if_pos (by omega), if_pos (by omega), rdT_at fs i (by omega), wrap_succ i (by omega)]
    · rw [List.drop_eq_getElem_cons (show i < fs.length by omega), List.any_cons]
      cases e : longF fs[i]
      · exact Ev.neg (by simp) (Ev.get ih (by simp))
      · exact Ev.pos rfl (Ev.some_ (by simp))
theorem long_ev (sorts : List ByteArray) (fs : List S33) (hs : sorts.length ≤ maxLen) (hf : wideF fs) : Ev (fun k => sequiturref06_Long.f k sorts fs) (longS sorts fs) := by
  unfold sequiturref06_Long.f longS
  have hj : Ev (fun k => sequiturref06_Long.j0 k true sorts fs) true := Ev.step (fun k => by simp only [sequiturref06_Long.j0, if_true]) (Ev.now _)
  by_cases e0 : sorts.length > 70
  · exact Ev.pos (by omega) (Ev.get hj (by simp [e0]))
  · refine Ev.neg (by omega) ?_
    by_cases e3 : fs.length > 20
    · rw [decide_eq_true (show (fs.length : Int) > 20 by omega)]
      exact Ev.get hj (by simp [e3])
    · rw [decide_eq_false (show ¬ (fs.length : Int) > 20 by omega)]
      refine Ev.step (f := fun k => sequiturref06_Long.l0 k ((0 : Nat) : Int) sorts fs) (fun k => by simp only [sequiturref06_Long.j0, Bool.false_eq_true, if_false]; rfl) ?_
      refine Ev.get (any_loop (l := sorts) (g := fun k i => sequiturref06_Long.l0 k i sorts fs) (c := fun _ => none) (r := fs.any longF) hs (fun k i h => ?_) ?_ sorts.length 0 (by omega)) ?_
      · unfold maxLen at hs
        simp only [sequiturref06_Long.l0]
        rw [if_pos (by omega), if_pos (by omega), rd_at sorts i h, wrap_succ i (by omega)]
      · refine Ev.step (f := fun k => sequiturref06_Long.l1 k ((0 : Nat) : Int) sorts fs) (fun k => by simp only [sequiturref06_Long.l0]; rw [if_neg (by omega)]; rfl) ?_
        exact long_loop sorts fs hf fs.length 0 (by omega)
      · simp [e0, e3]
theorem longS_not {sorts : List ByteArray} {fs : List S33} (h : longS sorts fs = false) : sorts.length ≤ 70 ∧ fs.length ≤ 20 := by
  simp [longS] at h
  exact h.1
theorem longF_not {f : S33} (h : longF f = false) : f.f0.size ≤ 100 ∧ f.f2.size ≤ 100 ∧ f.f1.length ≤ 20 := by
  simp [longF] at h
  exact ⟨h.1.1.1, h.1.1.2, h.1.2⟩
theorem wide_of {fs : List S33} (h : fs.length ≤ maxLen ∧ ∀ x ∈ fs, G33 x) : wideF fs := ⟨h.1, fun x hx => (h.2 x hx).2.1.1⟩
theorem long_good {sorts : List ByteArray} {fs : List S33} (h : longS sorts fs = false) : sorts.length ≤ 300 ∧ goodF fs := by
  simp [longS] at h
  obtain ⟨⟨h1, h2⟩, h3, h4⟩ := h
  exact ⟨by omega, by omega, fun x hx => by have := (longF_not (h4 x hx)).2.2; omega⟩
theorem good_nil : goodF ([] : List S33) := ⟨by simp, by simp⟩
theorem funS_good (sorts : List ByteArray) (fs : List S33) (g : S33) (hs : sorts.length ≤ 300) (hf : fs.length ≤ 20 ∧ ∀ x ∈ fs, x.f1.length ≤ 300) (hg : g.f1.length ≤ 300) : (funS sorts fs g).1.length ≤ 300 ∧ goodF (funS sorts fs g).2.1 := by
  unfold funS
  split
  · split
    · exact ⟨by simp, good_nil⟩
    · split
      · exact ⟨by simp, good_nil⟩
      · split
        · exact ⟨by simp, good_nil⟩
        · refine ⟨hs, ?_, ?_⟩
          · have := hf.1; simp; omega
          · intro x hx
            rcases List.mem_append.1 hx with h | h
            · exact hf.2 x h
            · rw [List.mem_singleton.1 h]; exact hg
  · exact ⟨by simp, good_nil⟩
theorem sortS_good (sorts : List ByteArray) (fs : List S33) (s : ByteArray) (hf : goodF fs) : (sortS sorts fs s).1.length ≤ 300 ∧ goodF (sortS sorts fs s).2.1 := by
  have := putS_length sorts s
  unfold sortS
  split
  · split
    · exact ⟨by simp, good_nil⟩
    · exact ⟨by show (putS sorts s).1.length ≤ 300; omega, hf⟩
  · exact ⟨by simp, good_nil⟩
theorem sAlive1 : funS [(⟨#[65]⟩ : ByteArray)] [] ⟨⟨#[102]⟩, [⟨#[65]⟩], ⟨#[65]⟩⟩ = ([(⟨#[65]⟩ : ByteArray)], [⟨⟨#[102]⟩, [⟨#[65]⟩], ⟨#[65]⟩⟩], 0) := by decide +kernel
theorem sAlive2 : funS [(⟨#[65]⟩ : ByteArray)] [⟨⟨#[102]⟩, [⟨#[65]⟩], ⟨#[65]⟩⟩] ⟨⟨#[102]⟩, [⟨#[65]⟩], ⟨#[65]⟩⟩ = ([], [], 4) := by decide +kernel
theorem sAlive3 : funS [(⟨#[65]⟩ : ByteArray)] [⟨⟨#[102]⟩, [⟨#[65]⟩], ⟨#[65]⟩⟩] ⟨⟨#[99]⟩, [], ⟨#[65]⟩⟩ = ([(⟨#[65]⟩ : ByteArray)], [⟨⟨#[102]⟩, [⟨#[65]⟩], ⟨#[65]⟩⟩, ⟨⟨#[99]⟩, [], ⟨#[65]⟩⟩], 0) := by decide +kernel
theorem sAlive_ev : Ev (fun k => sequiturlaw06_alive.f k) true := by
  unfold sequiturlaw06_alive.f
  simp only [Option.bind_some]
  have g1 : goodF [⟨(⟨#[102]⟩ : ByteArray), [(⟨#[65]⟩ : ByteArray)], (⟨#[65]⟩ : ByteArray)⟩] := ⟨by decide, by simp⟩
  refine Ev.bind (fun_ev _ _ _ _ _ (by decide) good_nil (by decide)) ?_
  rw [sAlive1]
  refine Ev.bind (fun_ev _ _ _ _ _ (by decide) g1 (by decide)) ?_
  rw [sAlive2]
  refine Ev.bind (fun_ev _ _ _ _ _ (by decide) g1 (by decide)) ?_
  rw [sAlive3]
  refine Ev.pos rfl (Ev.pos rfl (Ev.pos rfl ?_))
  refine Ev.bind (check_ev _ _ _ _ _ (by decide) (by decide)) (Ev.pos (by decide +kernel) ?_)
  refine Ev.bind (check_ev _ _ _ _ _ (by decide) (by decide)) (Ev.pos (by decide +kernel) ?_)
  refine Ev.bind (consts_ev _ _ _ (by decide)) (Ev.bind (strings_ev _ _ ?_) (Ev.some_ (by decide +kernel)))
  exact Nat.le_trans (constsS_length _ _) (by decide)
end Go.Proofs.YtdnlaeefalmgpaaDoor.Pure
