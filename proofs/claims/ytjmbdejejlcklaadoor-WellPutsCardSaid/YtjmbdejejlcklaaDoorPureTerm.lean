/-
  Terms, no program in sight: how many parts there are, how deep they lie, what is wrong with them: what the document's answer reckons is what the plain functions say.
-/
import Derived.Test.YtjmbdejejlcklaaDoorPureBase
-- NEEDS sequiturbase_Size term_Right well_Within
import Derived.Test.YtjmbdejejlcklaaDoorPrint1
import Derived.Test.YtjmbdejejlcklaaDoorPrint2
import Derived.Test.YtjmbdejejlcklaaDoorPrint4
namespace Go.Proofs.YtjmbdejejlcklaaDoor.Pure
set_option linter.unusedVariables false
set_option linter.unusedSimpArgs false
open Go.RowKit Go.Proofs.YtjmbdejejlcklaaDoor.Print Go.Proofs.YtjmbdejejlcklaaDoor.Spec Go.Proofs.YtjmbdejejlcklaaDoor.Aux Go.Proofs.YtjmbdejejlcklaaDoorW.PrintWords Go.Proofs.YtjmbdejejlcklaaDoorW.PrintLast Go.Proofs.YtjmbdejejlcklaaDoorW.PrintMore

theorem sz_lt (x : S29) : SizeOf.sizeOf x.f3 < SizeOf.sizeOf x := by cases x; simp; omega
theorem sz_arg (x : S29) (i : Nat) (h : i < x.f3.length) : SizeOf.sizeOf x.f3[i] < SizeOf.sizeOf x := by
  have h1 := List.sizeOf_lt_of_mem (List.getElem_mem h)
  have h2 := sz_lt x
  omega
theorem lenT_G : ∀ (d : Nat) (x : S29), SizeOf.sizeOf x ≤ d → G29 x → lenT x
  | 0, x, hd, _ => by cases x; simp at hd
  | d + 1, x, hd, h => by
    rw [lenT_eq, lenL_iff]
    obtain ⟨_, h0, h1, h2, h3, hr⟩ := h
    refine ⟨by unfold maxLen at h3; omega, fun i hi => ?_⟩
    have := sz_arg x i hi
    exact lenT_G d _ (by omega) (hr _ (List.getElem_mem hi))
theorem lenT_arg {x : S29} (h : lenT x) (i : Nat) (hi : i < x.f3.length) : lenT x.f3[i] := by
  rw [lenT_eq, lenL_iff] at h
  exact h.2 i hi
theorem lenT_len {x : S29} (h : lenT x) : x.f3.length ≤ 9223372036854775807 := by
  rw [lenT_eq] at h
  exact h.1
/-- How many parts there are: what the reference counts, up to a bound. -/
theorem size_ev : ∀ (d : Nat) (x : S29), SizeOf.sizeOf x ≤ d → lenT x → ∀ m : Nat, m ≤ 100000 → Ev (fun k => sequiturbase_Size.f k x.f0 x.f1 x.f2 x.f3 (m : Int)) ((min (keysT x).length (m + 1) : Nat) : Int)
  | 0, x, hd, _, _, _ => by cases x; simp at hd
  | d + 1, x, hd, hl, m, hm => by
    have hlen := lenT_len hl
    have loop : ∀ (e i : Nat), i + e = x.f3.length → Ev (fun k => sequiturbase_Size.l0 k (m : Int) ((min ((keysL (x.f3.take i)).length + 1) (m + 1) : Nat) : Int) (i : Int) x.f0 x.f1 x.f2 x.f3) ((min (keysT x).length (m + 1) : Nat) : Int) := by
      intro e
      induction e with
      | zero =>
        intro i hi
        refine Ev.step (f := fun _ => some _) (fun k => ?_) (Ev.now _)
        simp only [sequiturbase_Size.l0]
        rw [if_neg (by omega), List.take_of_length_le (by omega), keysT_eq, List.length_cons]
      | succ e ih =>
        intro i hi
        have hlt : i < x.f3.length := by omega
        have ih2 := ih (i + 1) (by omega)
        rw [keysL_take _ i hlt, List.length_append] at ih2
        by_cases hmm : (keysL (x.f3.take i)).length + 1 ≤ m
        · have hs := sz_arg x i hlt
          have hin := size_ev d x.f3[i] (by omega) (lenT_arg hl i hlt) (m - ((keysL (x.f3.take i)).length + 1)) (by omega)
          have c1 : (i : Int) < (x.f3.length : Int) := by omega
          have c2 : ((min ((keysL (x.f3.take i)).length + 1) (m + 1) : Nat) : Int) ≤ (m : Int) := by omega
          have c3 : (0 : Int) ≤ (i : Int) := by omega
          have e1 : (m : Int) - ((min ((keysL (x.f3.take i)).length + 1) (m + 1) : Nat) : Int) = ((m - ((keysL (x.f3.take i)).length + 1) : Nat) : Int) := by omega
          have e2 : ((min ((keysL (x.f3.take i)).length + 1) (m + 1) : Nat) : Int) + ((min (keysT x.f3[i]).length (m - ((keysL (x.f3.take i)).length + 1) + 1) : Nat) : Int) = ((min ((keysL (x.f3.take i)).length + (keysT x.f3[i]).length + 1) (m + 1) : Nat) : Int) := by omega
          have w1 : wrap64 ((m : Int) - ((min ((keysL (x.f3.take i)).length + 1) (m + 1) : Nat) : Int)) = ((m - ((keysL (x.f3.take i)).length + 1) : Nat) : Int) := (wrap_in _ (by omega) (by omega)).trans e1
          have w2 : wrap64 (((min ((keysL (x.f3.take i)).length + 1) (m + 1) : Nat) : Int) + ((min (keysT x.f3[i]).length (m - ((keysL (x.f3.take i)).length + 1) + 1) : Nat) : Int)) = ((min ((keysL (x.f3.take i)).length + (keysT x.f3[i]).length + 1) (m + 1) : Nat) : Int) := (wrap_in _ (by omega) (by omega)).trans e2
          have w3 : wrap64 ((i : Int) + 1) = ((i + 1 : Nat) : Int) := wrap_succ i (by omega)
          clear e1 e2
          rw [← w2] at ih2
          clear w2
          refine Ev.step (f := fun k => (sequiturbase_Size.f k x.f3[i].f0 x.f3[i].f1 x.f3[i].f2 x.f3[i].f3 ((m - ((keysL (x.f3.take i)).length + 1) : Nat) : Int)).bind fun t => sequiturbase_Size.l0 k (m : Int) (wrap64 (((min ((keysL (x.f3.take i)).length + 1) (m + 1) : Nat) : Int) + t)) ((i + 1 : Nat) : Int) x.f0 x.f1 x.f2 x.f3) (fun k => ?_) (Ev.bind hin ih2)
          simp only [sequiturbase_Size.l0]
          rw [if_pos c1, if_pos c2, if_pos c3, rd29 _ i hlt, w1, w3]
        · have hpre := (keysL_pre x.f3 i).length_le
          refine Ev.step (f := fun _ => some _) (fun k => ?_) (Ev.some_ (r := ((min ((keysL (x.f3.take i)).length + 1) (m + 1) : Nat) : Int)) (by rw [keysT_eq, List.length_cons]; omega))
          simp only [sequiturbase_Size.l0]
          rw [if_pos (by omega), if_neg (by omega)]
    refine Ev.step (fun k => ?_) (loop x.f3.length 0 (by omega))
    simp only [sequiturbase_Size.f]
    rw [List.take_zero]
    simp [keysL]
end Go.Proofs.YtjmbdejejlcklaaDoor.Pure
