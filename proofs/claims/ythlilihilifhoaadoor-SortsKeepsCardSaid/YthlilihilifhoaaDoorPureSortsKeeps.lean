/-
  Proved: what is put into a list that may be, without error, may be, and is known there, as the last one: for lists of at most 200 names, names of at most 200 bytes.
-/
import Derived.Test.YthlilihilifhoaaDoorPureSorts
import Derived.Test.YthlilihilifhoaaDoorPrint12
namespace Go.Proofs.YthlilihilifhoaaDoor.Pure
set_option linter.unusedVariables false
set_option linter.unusedSimpArgs false
open Go.RowKit Go.Proofs.YthlilihilifhoaaDoor.Print Go.Proofs.YthlilihilifhoaaDoor.Spec Go.Proofs.YthlilihilifhoaaDoor.Aux Go.Proofs.YthlilihilifhoaaDoorW.PrintWords Go.Proofs.YthlilihilifhoaaDoorW.PrintLast Go.Proofs.YthlilihilifhoaaDoorW.PrintMore


theorem rightGo_snoc (s : ByteArray) (hm : mayS s = true) : ∀ (l pre : List ByteArray), hasB (pre ++ l) s = false → rightGo pre l = 0 → rightGo pre (l ++ [s]) = 0
  | [], pre, hh, _ => by
    rw [List.append_nil] at hh
    simp [rightGo, hm, hh]
  | x :: l, pre, hh, h => by
    rw [List.cons_append, rightGo]
    rw [rightGo] at h
    by_cases e : mayS x = true
    · rw [if_pos e] at h ⊢
      by_cases e2 : hasB pre x = true
      · rw [if_pos e2] at h; exact absurd h (by decide)
      · rw [if_neg e2] at h ⊢
        exact rightGo_snoc s hm l (pre ++ [x]) (by simpa using hh) h
    · rw [if_neg e] at h; exact absurd h (by decide)
theorem hasB_append (l m : List ByteArray) (s : ByteArray) : hasB (l ++ m) s = (hasB l s || hasB m s) := by simp [hasB]
theorem idxFrom_last (s : ByteArray) : ∀ (l : List ByteArray) (i : Nat), hasB l s = false → idxFrom (fun x => decide (x = s)) (l ++ [s]) i = i + l.length
  | [], i, _ => by simp [idxFrom]
  | x :: l, i, h => by
    rw [hasB_cons, Bool.or_eq_false_iff] at h
    rw [List.cons_append, idxFrom, if_neg (by simpa using h.1)]
    have := idxFrom_last s l (i + 1) h.2
    simp only [List.length_cons]
    rw [show ((i : Int) + 1) = ((i + 1 : Nat) : Int) by omega, this]
    omega
theorem may_not (s : ByteArray) (hm : mayS s = true) : hasB [(⟨#[66, 111, 111, 108]⟩ : ByteArray), (⟨#[73, 110, 116]⟩ : ByteArray)] s = false := by
  simp only [mayS, Bool.and_eq_true, Bool.not_eq_true', decide_eq_false_iff_not, bne_iff_ne, ne_eq] at hm
  obtain ⟨_, _, h1, h2⟩ := hm
  rw [ba_lit] at h1 h2
  rw [hasB_cons, hasB_cons]
  simp only [hasB, List.any_nil, Bool.or_false, Bool.or_eq_false_iff, decide_eq_false_iff_not]
  exact ⟨fun h => h1 h.symm, fun h => h2 h.symm⟩
theorem keep_new (l : List ByteArray) (s : ByteArray) (h1 : mayS s = true) (h2 : hasB l s = false) (hr : rightGo [] l = 0) (h3 : l.length < 64) :
    (allS (l ++ [s])).length = l.length + 3 ∧ allS (l ++ [s]) = allS l ++ [s] ∧ hasB (allS l) s = false ∧ rightS (l ++ [s]) = 0 ∧ placeS (l ++ [s]) s = ((l.length + 2 : Nat) : Int) := by
  have hA : (allS (l ++ [s])).length = l.length + 3 := by simp [allS]
  have hlast : allS (l ++ [s]) = allS l ++ [s] := by simp [allS]
  have hno : hasB (allS l) s = false := by unfold allS; rw [hasB_append, may_not s h1, h2]; rfl
  refine ⟨hA, hlast, hno, ?_, ?_⟩
  · unfold rightS
    have hn : (l ++ [s]).length = l.length + 1 := by simp
    rw [if_neg (by omega)]
    exact rightGo_snoc s h1 l [] (by simpa using h2) hr
  · have := idxFrom_last s (allS l) 0 hno
    unfold placeS
    rw [hlast]
    rw [show ((0 : Nat) : Int) = 0 by rfl] at this
    rw [this]
    have : (allS l).length = l.length + 2 := by simp [allS]
    omega
theorem keep_go {k : Nat} {l m : List ByteArray} {s : ByteArray} (h0 : l.length ≤ 300) (h1 : m.length ≤ 300) (e2 : sorts_Right.f k m = some (rightS m)) (e3 : sequiturlaw05_alive.f k = some true)
    (hright : rightS m = 0) (hno : hasB (allS l) s = false) (c1 : (m.length : Int) = wrap64 ((l.length : Int) + 1)) (c2 : hasB (allS m) s = true) (c3 : placeS m s = wrap64 ((l.length : Int) + 2))
    (c4 : ((allS m).length : Int) = wrap64 ((m.length : Int) + 2)) (c5 : wrap64 (((allS m).length : Int) - 1) = ((l.length + 2 : Nat) : Int)) (c6 : rdOf ByteArray.empty (allS m) ((l.length + 2 : Nat) : Int) = s) (c7 : ((l.length + 2 : Nat) : Int) < (allS m).length) :
    ((sorts_All.f m).bind fun t251 => (if (m.length : Int) = (wrap64 ((l.length : Int) + 1)) then ((sorts_Right.f k m).bind fun t254 => (if t254 = 0 then ((sorts_Known.f l s).bind fun t255 => (if t255 = true then (some false) else ((sorts_Known.f m s).bind fun t256 => (if t256 = true then ((sorts_Place.f m s).bind fun t257 => (if t257 = (wrap64 ((l.length : Int) + 2)) then (if (t251.length : Int) = (wrap64 ((m.length : Int) + 2)) then (if 0 ≤ (wrap64 ((t251.length : Int) - 1)) then (if (wrap64 ((t251.length : Int) - 1)) < (t251.length : Int) then (if (rdOf ByteArray.empty t251 (wrap64 ((t251.length : Int) - 1))).toList = s.toList then ((sequiturlaw05_alive.f k).bind fun t259 => (some t259)) else (some false)) else (none)) else (none)) else (some false)) else (some false))) else (some false))))) else (some false))) else (some false))) = some true := by
  rw [all_f m h1, Option.bind_some, if_pos c1]
  rw [e2, Option.bind_some, if_pos hright]
  rw [known_f l s h0, Option.bind_some, if_neg (by rw [hno]; exact Bool.false_ne_true)]
  rw [known_f m s h1, Option.bind_some, if_pos c2]
  rw [place_f m s h1, Option.bind_some, if_pos c3, if_pos c4]
  rw [c5]
  rw [if_pos (by omega), if_pos c7, c6, if_pos rfl, e3, Option.bind_some]
theorem keep_tail (l : List ByteArray) (s : ByteArray) (h1 : mayS s = true) (h2 : hasB l s = false) (hr : rightGo [] l = 0) (h3 : l.length < 64) (hp : putS l s = (l ++ [s], 0)) :
    Ev (fun k => sequiturlaw05_SortsKeeps.j0 k l s false) true := by
  have hlm : (l ++ [s]).length ≤ maxLen := by rw [List.length_append, List.length_singleton]; unfold maxLen; omega
  have hl : l.length ≤ maxLen := by unfold maxLen; omega
  obtain ⟨K1, e1⟩ : ∃ K, ∀ k, K ≤ k → sorts_Put.f k l s = some (putS l s) := put_ev l s hl
  obtain ⟨K2, e2⟩ : ∃ K, ∀ k, K ≤ k → sorts_Right.f k (l ++ [s]) = some (rightS (l ++ [s])) := right_ev (l ++ [s]) hlm
  obtain ⟨K3, e3⟩ : ∃ K, ∀ k, K ≤ k → sequiturlaw05_alive.f k = some true := alive_ev
  obtain ⟨hA, hlast, hno, hright, hplace⟩ := keep_new l s h1 h2 hr h3
  have hn : (l ++ [s]).length = l.length + 1 := by simp
  have c1 : ((l ++ [s]).length : Int) = wrap64 ((l.length : Int) + 1) := by rw [hn, wrap_in _ (by omega) (by omega)]; omega
  have c2 : hasB (allS (l ++ [s])) s = true := by rw [hlast, hasB_append]; simp [hasB]
  have c3 : placeS (l ++ [s]) s = wrap64 ((l.length : Int) + 2) := by rw [hplace, wrap_in _ (by omega) (by omega)]; omega
  have c4 : ((allS (l ++ [s])).length : Int) = wrap64 (((l ++ [s]).length : Int) + 2) := by rw [hA, hn, wrap_in _ (by omega) (by omega)]; omega
  have c5 : wrap64 (((allS (l ++ [s])).length : Int) - 1) = ((l.length + 2 : Nat) : Int) := by rw [hA, wrap_in _ (by omega) (by omega)]; omega
  have c6 : rdOf ByteArray.empty (allS (l ++ [s])) ((l.length + 2 : Nat) : Int) = s := by
    rw [rd_at _ _ (by omega)]
    simp only [hlast]
    rw [List.getElem_append_right (by simp [allS])]
    simp [allS]
  refine ⟨K1 + K2 + K3 + 1, fun k hk => ?_⟩
  obtain ⟨k, rfl⟩ : ∃ n, k = n + 1 := ⟨k - 1, by omega⟩
  show sequiturlaw05_SortsKeeps.j0 (k + 1) l s false = some true
  rw [sequiturlaw05_SortsKeeps.j0, if_neg (by decide), e1 k (by omega), hp, Option.bind_some]
  rw [if_pos (show ((l ++ [s], (0 : Int)) : List ByteArray × Int).2 = 0 from rfl)]
  exact keep_go (k := k) (m := l ++ [s]) (by omega) (by omega) (e2 k (by omega)) (e3 k (by omega)) hright hno c1 c2 c3 c4 c5 c6 (by rw [hA]; omega)
theorem keep_err (l : List ByteArray) (s : ByteArray) (e : Int) (hl : l.length ≤ maxLen) (he : e ≠ 0) (hp : putS l s = ([], e)) :
    Ev (fun k => sequiturlaw05_SortsKeeps.j0 k l s false) true := by
  obtain ⟨K1, e1⟩ : ∃ K, ∀ k, K ≤ k → sorts_Put.f k l s = some (putS l s) := put_ev l s hl
  obtain ⟨K3, e3⟩ : ∃ K, ∀ k, K ≤ k → sequiturlaw05_alive.f k = some true := alive_ev
  refine ⟨K1 + K3 + 1, fun k hk => ?_⟩
  obtain ⟨k, rfl⟩ : ∃ n, k = n + 1 := ⟨k - 1, by omega⟩
  show sequiturlaw05_SortsKeeps.j0 (k + 1) l s false = some true
  rw [sequiturlaw05_SortsKeeps.j0, if_neg (by decide), e1 k (by omega), hp, Option.bind_some]
  rw [if_neg he, if_pos (show ((([] : List ByteArray).length : Nat) : Int) = 0 from rfl), e3 k (by omega), Option.bind_some]
theorem SortsKeeps : sequiturlaw05_SortsKeeps.Pure := by
  rintro l s ⟨hl, hx⟩ hs
  refine Ev.rounds (g := fun k => sequiturlaw05_SortsKeeps.f k l s) ?_
  unfold sequiturlaw05_SortsKeeps.f
  have hend : Ev (fun k => sequiturlaw05_SortsKeeps.j0 k l s true) true := by
    refine Ev.step (fun k => by simp only [sequiturlaw05_SortsKeeps.j0, if_true]) (Ev.bind alive_ev (Ev.now _))
  refine Ev.bind (few_ev l hl) ?_
  cases hfew : fewS l
  · exact Ev.neg (by simp) hend
  · have h200 := fewS_length hfew
    refine Ev.pos rfl ?_
    by_cases hs2 : (s.size : Int) > 200
    · exact Ev.pos hs2 hend
    · refine Ev.neg hs2 (Ev.bind (right_ev l hl) ?_)
      by_cases hr : rightS l = 0
      · rw [hr]
        have hl64 : l.length ≤ 64 ∧ rightGo [] l = 0 := by
          unfold rightS at hr
          by_cases h : l.length > 64
          · rw [if_pos h] at hr; exact absurd hr (by decide)
          · rw [if_neg h] at hr; exact ⟨by omega, hr⟩
        by_cases h1 : mayS s = true
        · by_cases h2 : hasB l s = true
          · exact keep_err l s 4 hl (by decide) (by simp only [putS, if_pos h1, if_pos h2])
          · have h2' : hasB l s = false := by simpa using h2
            by_cases h3 : l.length ≥ 64
            · exact keep_err l s 2 hl (by decide) (by simp only [putS, if_pos h1, if_neg h2, if_pos h3])
            · exact keep_tail l s h1 h2' hl64.2 (by omega) (by simp only [putS, if_pos h1, if_neg h2, if_neg h3])
        · exact keep_err l s 10 hl (by decide) (by simp only [putS, if_neg h1])
      · rw [show (rightS l != 0) = true by simpa using hr]; exact hend

end Go.Proofs.YthlilihilifhoaaDoor.Pure
