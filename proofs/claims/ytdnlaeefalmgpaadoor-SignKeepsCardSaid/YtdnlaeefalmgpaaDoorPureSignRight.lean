/-
  Layer 6: which signatures may be: what the program's function and the reference's tell.
-/
-- NEEDS sign_Right
import Derived.Test.YtdnlaeefalmgpaaDoorPureSignBase
import Derived.Test.YtdnlaeefalmgpaaDoorPrint3
namespace Go.Proofs.YtdnlaeefalmgpaaDoor.Pure
set_option linter.unusedVariables false
set_option linter.unusedSimpArgs false
open Go.RowKit Go.Proofs.YtdnlaeefalmgpaaDoor.Print Go.Proofs.YtdnlaeefalmgpaaDoor.Spec Go.Proofs.YtdnlaeefalmgpaaDoor.Aux Go.Proofs.YtdnlaeefalmgpaaDoorW.PrintWords Go.Proofs.YtdnlaeefalmgpaaDoorW.PrintLast Go.Proofs.YtdnlaeefalmgpaaDoorW.PrintMore

/-- The first error of functions, those ahead given. -/
def rightGoF (so : List ByteArray) : List S33 → List S33 → Int
  | _, [] => 0
  | pre, f :: t => if checkS so f = 0 then (if (findS pre f.f0).isSome = true then 4 else rightGoF so (pre ++ [f]) t) else checkS so f
def rightF (so : List ByteArray) (fs : List S33) : Int := if rightS so = 0 then (if fs.length > 256 then 2 else rightGoF so [] fs) else rightS so
theorem has_find (fs : List S33) (s : ByteArray) : sign_Right.has fs s = (findS fs s).isSome := by
  unfold sign_Right.has findS
  rw [Bool.eq_iff_iff, List.any_eq_true, List.find?_isSome]
  constructor
  · rintro ⟨f, hf, h⟩
    exact ⟨f, hf, by rw [decide_eq_true_eq] at h ⊢; exact (ba_data _ _).1 h⟩
  · rintro ⟨f, hf, h⟩
    exact ⟨f, hf, by rw [decide_eq_true_eq] at h ⊢; exact (ba_data _ _).2 h⟩
theorem nameS_size {s : ByteArray} (h : nameS s = true) : s.size ≤ 32 := by
  unfold nameS at h
  rw [Bool.and_eq_true] at h
  exact (nameL_size s h.1).2
theorem check_name {so : List ByteArray} {f : S33} (h : checkS so f = 0) : nameS f.f0 = true ∧ f.f1.length ≤ 8 := by
  unfold checkS at h
  cases hn : nameS f.f0
  · rw [hn] at h; exact absurd h (by simp)
  · rw [hn, if_pos rfl] at h
    refine ⟨rfl, ?_⟩
    by_cases h8 : f.f1.length > 8
    · rw [if_pos h8] at h; exact absurd h (by decide)
    · omega
theorem rightF_loop (so : List ByteArray) (fs : List S33) (hs : so.length ≤ 300) (hf : wideF fs) : ∀ (d i : Nat), i + d = fs.length → Ev (fun k => sign_Right.l0 k so fs i) (rightGoF so (fs.take i) (fs.drop i))
  | 0, i, h => by
    refine Ev.step (f := fun _ => some 0) (fun k => ?_) (Ev.some_ ?_)
    · simp only [sign_Right.l0]; rw [if_neg (by omega)]
    · rw [List.drop_eq_nil_of_le (by omega)]; rfl
  | d + 1, i, h => by
    have ih := rightF_loop so fs hs hf d (i + 1) (by omega)
    have ht : fs.take (i + 1) = fs.take i ++ [fs[i]] := List.take_succ_eq_append_getElem (by omega)
    refine Ev.step (f := fun k => (sign_Check.f k so fs fs[i].f0 fs[i].f1 fs[i].f2).bind fun e => if e = 0 then (if fs[i].f0.size ≤ maxLen then (if sign_Right.has (fs.take i) fs[i].f0 = true then some 4 else sign_Right.l0 k so fs (i + 1)) else none) else some e) (fun k => ?_) (Ev.bind (check_ev so fs _ _ _ hs (hf.2 _ (List.getElem_mem _))) ?_)
    · simp only [sign_Right.l0]
      rw [if_pos (by omega), rdT_at fs i (by omega)]
    · rw [List.drop_eq_getElem_cons (show i < fs.length by omega), rightGoF]
      by_cases e : checkS so fs[i] = 0
      · rw [if_pos e]
        have hz := nameS_size (check_name e).1
        refine Ev.pos e (Ev.pos (by unfold maxLen; omega) ?_)
        rw [has_find]
        by_cases e2 : (findS (fs.take i) fs[i].f0).isSome = true
        · exact Ev.pos e2 (Ev.some_ (by rw [if_pos e2]))
        · exact Ev.neg e2 (Ev.get ih (by rw [if_neg e2, ht]))
      · exact Ev.neg e (Ev.some_ (by rw [if_neg e]))
theorem rightF_ev (so : List ByteArray) (fs : List S33) (hs : so.length ≤ 300) (hf : wideF fs) : Ev (fun k => sign_Right.f k so fs) (rightF so fs) := by
  unfold sign_Right.f rightF
  refine Ev.bind (right_ev so (le_max hs)) ?_
  by_cases e : rightS so = 0
  · refine Ev.pos e ?_
    rw [if_pos e]
    by_cases h : fs.length > 256
    · exact Ev.pos (by omega) (Ev.some_ (by rw [if_pos h]))
    · exact Ev.neg (by omega) (Ev.get (rightF_loop so fs hs hf fs.length 0 (by omega)) (by rw [if_neg h]; rfl))
  · exact Ev.neg e (Ev.some_ (by rw [if_neg e]))
theorem find_append (l m : List S33) (s : ByteArray) : findS (l ++ m) s = (findS l s).or (findS m s) := by unfold findS; exact List.find?_append
theorem rightGoF_snoc (so : List ByteArray) (g : S33) (hg : checkS so g = 0) : ∀ (l pre : List S33), findS (pre ++ l) g.f0 = none → rightGoF so pre l = 0 → rightGoF so pre (l ++ [g]) = 0
  | [], pre, hh, _ => by
    rw [List.append_nil] at hh
    simp [rightGoF, hg, hh]
  | f :: l, pre, hh, h => by
    rw [List.cons_append, rightGoF]
    rw [rightGoF] at h
    by_cases e : checkS so f = 0
    · rw [if_pos e] at h ⊢
      by_cases e2 : (findS pre f.f0).isSome = true
      · rw [if_pos e2] at h; exact absurd h (by decide)
      · rw [if_neg e2] at h ⊢
        exact rightGoF_snoc so g hg l (pre ++ [f]) (by simpa using hh) h
    · rw [if_neg e] at h; exact absurd h e
theorem rightGoF_uniq (so : List ByteArray) : ∀ (l pre : List S33), rightGoF so pre l = 0 → ∀ x ∈ l, findS (pre ++ l) x.f0 = some x
  | [], pre, _, x, hx => by simp at hx
  | f :: l, pre, h, x, hx => by
    rw [rightGoF] at h
    by_cases e : checkS so f = 0
    · rw [if_pos e] at h
      by_cases e2 : (findS pre f.f0).isSome = true
      · rw [if_pos e2] at h; exact absurd h (by decide)
      · rw [if_neg e2] at h
        have hn : findS pre f.f0 = none := by simpa using e2
        rcases List.mem_cons.1 hx with rfl | hx
        · rw [find_append, hn]
          simp [findS]
        · have := rightGoF_uniq so l (pre ++ [f]) h x hx
          simpa using this
    · rw [if_neg e] at h; exact absurd h e
theorem all_snoc (so : List ByteArray) (n a : ByteArray) (h : hasB (allS so) a = true) : hasB (allS (so ++ [n])) a = true := by
  have e : allS (so ++ [n]) = allS so ++ [n] := by simp [allS]
  rw [e]
  unfold hasB at h ⊢
  rw [List.any_append, h]; rfl
theorem args_snoc (so : List ByteArray) (n r : ByteArray) : ∀ l, argsS so r l = 0 → argsS (so ++ [n]) r l = 0
  | [], h => by
    unfold argsS at h ⊢
    cases e : hasB (allS so) r
    · rw [e] at h; exact absurd h (by simp)
    · rw [all_snoc so n r e]; rfl
  | a :: l, h => by
    unfold argsS at h ⊢
    by_cases e : a = boolB
    · rw [if_pos e] at h; exact absurd h (by decide)
    · rw [if_neg e] at h ⊢
      cases e2 : hasB (allS so) a
      · rw [e2] at h; exact absurd h (by simp)
      · rw [e2, if_pos rfl] at h
        rw [all_snoc so n a e2, if_pos rfl]
        exact args_snoc so n r l h
theorem check_snoc (so : List ByteArray) (n : ByteArray) (f : S33) (h : checkS so f = 0) : checkS (so ++ [n]) f = 0 := by
  obtain ⟨h1, h2⟩ := check_name h
  unfold checkS at h ⊢
  rw [if_pos h1, if_neg (by omega)] at h ⊢
  exact args_snoc so n _ _ h
theorem rightGoF_sorts (so : List ByteArray) (n : ByteArray) : ∀ (l pre : List S33), rightGoF so pre l = 0 → rightGoF (so ++ [n]) pre l = 0
  | [], pre, _ => rfl
  | f :: l, pre, h => by
    rw [rightGoF] at h ⊢
    by_cases e : checkS so f = 0
    · rw [if_pos e] at h
      rw [if_pos (check_snoc so n f e)]
      by_cases e2 : (findS pre f.f0).isSome = true
      · rw [if_pos e2] at h; exact absurd h (by decide)
      · rw [if_neg e2] at h ⊢
        exact rightGoF_sorts so n l (pre ++ [f]) h
    · rw [if_neg e] at h; exact absurd h e
theorem sRightGo_snoc (s : ByteArray) (hm : mayS s = true) : ∀ (l pre : List ByteArray), hasB (pre ++ l) s = false → rightGo pre l = 0 → rightGo pre (l ++ [s]) = 0
  | [], pre, hh, _ => by
    rw [List.append_nil] at hh
    simp [rightGo, hm, hh]
  | x :: l, pre, hh, h => by
    rw [List.cons_append, rightGo]
    rw [rightGo] at h
    by_cases e : mayS x = true
    · rw [if_pos e] at h ⊢
      by_cases e2 : hasB pre x = true
      · rw [if_pos e2] at h; exact absurd h (by decide)
      · rw [if_neg e2] at h ⊢
        exact sRightGo_snoc s hm l (pre ++ [x]) (by simpa using hh) h
    · rw [if_neg e] at h; exact absurd h (by decide)
theorem rightF_parts {so : List ByteArray} {fs : List S33} (h : rightF so fs = 0) : so.length ≤ 64 ∧ rightGo [] so = 0 ∧ fs.length ≤ 256 ∧ rightGoF so [] fs = 0 := by
  unfold rightF at h
  by_cases e : rightS so = 0
  · rw [if_pos e] at h
    by_cases h2 : fs.length > 256
    · rw [if_pos h2] at h; exact absurd h (by decide)
    · rw [if_neg h2] at h
      unfold rightS at e
      by_cases h3 : so.length > 64
      · rw [if_pos h3] at e; exact absurd e (by decide)
      · rw [if_neg h3] at e
        exact ⟨by omega, e, by omega, h⟩
  · rw [if_neg e] at h; exact absurd h e
theorem rightF_of {so : List ByteArray} {fs : List S33} (h1 : so.length ≤ 64) (h2 : rightGo [] so = 0) (h3 : fs.length ≤ 256) (h4 : rightGoF so [] fs = 0) : rightF so fs = 0 := by
  have e : rightS so = 0 := by
    unfold rightS
    rw [if_neg (show ¬ so.length > 64 by omega)]; exact h2
  unfold rightF
  rw [if_pos e, if_neg (show ¬ fs.length > 256 by omega)]; exact h4
/-- What is put in keeps a signature right. -/
theorem sort_keeps {so : List ByteArray} {fs : List S33} {n : ByteArray} (h : rightF so fs = 0) (e : (sortS so fs n).2.2 = 0) : rightF (sortS so fs n).1 (sortS so fs n).2.1 = 0 ∧ hasB (sortS so fs n).1 n = true := by
  obtain ⟨h1, h2, h3, h4⟩ := rightF_parts h
  unfold sortS at e ⊢
  by_cases ep : (putS so n).2 = 0
  · rw [if_pos ep] at e ⊢
    by_cases ef : (findS fs n).isSome = true
    · rw [if_pos ef] at e; exact absurd e (by simp)
    · rw [if_neg ef] at e ⊢
      unfold putS at ep ⊢
      by_cases em : mayS n = true
      · rw [if_pos em] at ep ⊢
        by_cases eh : hasB so n = true
        · rw [if_pos eh] at ep; exact absurd ep (by simp)
        · rw [if_neg eh] at ep ⊢
          by_cases el : so.length ≥ 64
          · rw [if_pos el] at ep; exact absurd ep (by simp)
          · rw [if_neg el]
            refine ⟨rightF_of (by simp; omega) (sRightGo_snoc n em so [] (by simpa using eh) h2) h3 (rightGoF_sorts so n fs [] h4), ?_⟩
            show hasB (so ++ [n]) n = true
            unfold hasB
            rw [List.any_append]
            simp
      · rw [if_neg em] at ep; exact absurd ep (by simp)
  · rw [if_neg ep] at e; exact absurd e ep
theorem fun_keeps {so : List ByteArray} {fs : List S33} {g : S33} (h : rightF so fs = 0) (e : (funS so fs g).2.2 = 0) : rightF (funS so fs g).1 (funS so fs g).2.1 = 0 ∧ findS (funS so fs g).2.1 g.f0 = some g ∧ ∀ x ∈ fs, findS (funS so fs g).2.1 x.f0 = some x := by
  obtain ⟨h1, h2, h3, h4⟩ := rightF_parts h
  unfold funS at e ⊢
  by_cases ec : checkS so g = 0
  · rw [if_pos ec] at e ⊢
    by_cases ef : (findS fs g.f0).isSome = true
    · rw [if_pos ef] at e; exact absurd e (by simp)
    · rw [if_neg ef] at e ⊢
      by_cases ek : hasB (allS so) g.f0 = true
      · rw [if_pos ek] at e; exact absurd e (by simp)
      · rw [if_neg ek] at e ⊢
        by_cases el : fs.length ≥ 256
        · rw [if_pos el] at e; exact absurd e (by simp)
        · rw [if_neg el]
          have hn : findS fs g.f0 = none := by simpa using ef
          refine ⟨rightF_of h1 h2 (by simp; omega) (rightGoF_snoc so g ec fs [] (by simpa using hn) h4), ?_, ?_⟩
          · show findS (fs ++ [g]) g.f0 = some g
            rw [find_append, hn]
            simp [findS]
          · intro x hx
            show findS (fs ++ [g]) x.f0 = some x
            rw [find_append, show findS fs x.f0 = some x from rightGoF_uniq so fs [] h4 x hx]; rfl
  · rw [if_neg ec] at e; exact absurd e ec
theorem fun_error {so : List ByteArray} {fs : List S33} {g : S33} (e : (funS so fs g).2.2 ≠ 0) : (funS so fs g).1 = [] ∧ (funS so fs g).2.1 = [] := by
  unfold funS at e ⊢
  split
  · split
    · exact ⟨rfl, rfl⟩
    · split
      · exact ⟨rfl, rfl⟩
      · split
        · exact ⟨rfl, rfl⟩
        · simp_all
  · exact ⟨rfl, rfl⟩
end Go.Proofs.YtdnlaeefalmgpaaDoor.Pure
