/-
  Proved: the first fault is that of the least offset, the first of those: for any faults, at most 500.
-/
import Derived.Test.YtkhagjopkghpkaaPureBase
import Derived.Test.YtkhagjopkghpkaaPrint2
import Derived.Test.YtkhagjopkghpkaaPrint3
namespace Go.Proofs.Ytkhagjopkghpkaa.Pure
set_option linter.unusedVariables false
set_option linter.unusedSimpArgs false
open Go.RowKit Go.Proofs.Ytkhagjopkghpkaa.Print Go.Proofs.Ytkhagjopkghpkaa.Spec Go.Proofs.Ytkhagjopkghpkaa.Aux Go.Proofs.YtkhagjopkghpkaaW.PrintWords Go.Proofs.YtkhagjopkghpkaaW.PrintLast Go.Proofs.YtkhagjopkghpkaaW.PrintMore


theorem rdF_at (l : List S26) (i : Nat) (h : i < l.length) : rd_T26 l (i : Int) = l[i] := by
  unfold rd_T26
  rw [Int.toNat_natCast, List.getD, List.getElem?_eq_getElem h]; rfl
/-- The first fault, the best so far given. -/
def bestS : List S26 → Int → Int → Int × Int
  | [], b, c => (b, c)
  | f :: t, b, c => if f.f0 = 0 then bestS t b c else if b = 0 then bestS t f.f0 f.f1 else if f.f1 < c then bestS t f.f0 f.f1 else bestS t b c
theorem first_loop (l : List S26) (hl : l.length ≤ 500) : ∀ (d i : Nat) (b c : Int), i + d = l.length → Ev (fun k => fault_First.l0 k l l.length i b c) ((bestS (l.drop i) b c).1, (bestS (l.drop i) b c).2, (bestS (l.drop i) b c).1 != 0)
  | 0, i, b, c, h => by
    refine Ev.step (f := fun _ => some (b, c, b != 0)) (fun k => ?_) (Ev.some_ ?_)
    · simp only [fault_First.l0]; rw [if_neg (by omega)]
    · rw [List.drop_eq_nil_of_le (by omega)]; rfl
  | d + 1, i, b, c, h => by
    have hw : wrap64 ((i : Int) + 1) = ((i + 1 : Nat) : Int) := wrap_succ i (by omega)
    refine Ev.step (f := fun k => if l[i].f0 = 0 then fault_First.l0 k l l.length ((i + 1 : Nat) : Int) b c else if b = 0 then fault_First.l0 k l l.length ((i + 1 : Nat) : Int) l[i].f0 l[i].f1 else if l[i].f1 < c then fault_First.l0 k l l.length ((i + 1 : Nat) : Int) l[i].f0 l[i].f1 else fault_First.l0 k l l.length ((i + 1 : Nat) : Int) b c) (fun k => ?_) ?_
    · simp only [fault_First.l0]
      rw [if_pos (by omega), if_pos (by omega), if_pos (by omega), rdF_at l i (by omega), hw]
    · rw [List.drop_eq_getElem_cons (show i < l.length by omega), bestS]
      by_cases e0 : l[i].f0 = 0
      · rw [if_pos e0]; exact Ev.pos e0 (first_loop l hl d (i + 1) b c (by omega))
      · rw [if_neg e0]
        refine Ev.neg e0 ?_
        by_cases e1 : b = 0
        · rw [if_pos e1]; exact Ev.pos e1 (first_loop l hl d (i + 1) _ _ (by omega))
        · rw [if_neg e1]
          refine Ev.neg e1 ?_
          by_cases e2 : l[i].f1 < c
          · rw [if_pos e2]; exact Ev.pos e2 (first_loop l hl d (i + 1) _ _ (by omega))
          · rw [if_neg e2]; exact Ev.neg e2 (first_loop l hl d (i + 1) _ _ (by omega))
theorem law_loop (l : List S26) (hl : l.length ≤ 500) (x y : Int) : ∀ (d i : Nat) (b c : Int), i + d = l.length → bestS (l.drop i) b c = (x, y) → Ev (fun k => sequiturlaw04_FaultFirsts.l0 k l (x != 0) (b != 0) i x y b c) true
  | 0, i, b, c, h, hb => by
    rw [List.drop_eq_nil_of_le (by omega)] at hb
    obtain ⟨rfl, rfl⟩ := Prod.mk.inj hb
    refine Ev.step (f := fun _ => some true) (fun k => ?_) (Ev.now _)
    simp only [sequiturlaw04_FaultFirsts.l0]
    rw [if_neg (by omega), if_pos (by simp), if_pos (by simp)]
    rfl
  | d + 1, i, b, c, h, hb => by
    have hw : wrap64 ((i : Int) + 1) = ((i + 1 : Nat) : Int) := wrap_succ i (by omega)
    rw [List.drop_eq_getElem_cons (show i < l.length by omega), bestS] at hb
    refine Ev.step (f := fun k => if l[i].f0 = 0 then sequiturlaw04_FaultFirsts.l0 k l (x != 0) (b != 0) ((i + 1 : Nat) : Int) x y b c else if (b != 0) = true then (if l[i].f1 < c then sequiturlaw04_FaultFirsts.l0 k l (x != 0) true ((i + 1 : Nat) : Int) x y l[i].f0 l[i].f1 else sequiturlaw04_FaultFirsts.l0 k l (x != 0) (b != 0) ((i + 1 : Nat) : Int) x y b c) else sequiturlaw04_FaultFirsts.l0 k l (x != 0) true ((i + 1 : Nat) : Int) x y l[i].f0 l[i].f1) (fun k => ?_) ?_
    · simp only [sequiturlaw04_FaultFirsts.l0]
      rw [if_pos (by omega), if_pos (by omega), rdF_at l i (by omega), hw]
    · by_cases e0 : l[i].f0 = 0
      · rw [if_pos e0] at hb; exact Ev.pos e0 (law_loop l hl x y d (i + 1) b c (by omega) hb)
      · rw [if_neg e0] at hb
        have ht : (l[i].f0 != 0) = true := by simpa using e0
        refine Ev.neg e0 ?_
        by_cases e1 : b = 0
        · rw [if_pos e1] at hb
          refine Ev.neg (by simp [e1]) ?_
          have := law_loop l hl x y d (i + 1) _ _ (by omega) hb
          rw [ht] at this
          exact this
        · rw [if_neg e1] at hb
          refine Ev.pos (by simpa using e1) ?_
          by_cases e2 : l[i].f1 < c
          · rw [if_pos e2] at hb
            refine Ev.pos e2 ?_
            have := law_loop l hl x y d (i + 1) _ _ (by omega) hb
            rw [ht] at this
            exact this
          · rw [if_neg e2] at hb; exact Ev.neg e2 (law_loop l hl x y d (i + 1) _ _ (by omega) hb)
theorem FaultFirsts : sequiturlaw04_FaultFirsts.Pure := by
  rintro l ⟨hl, _⟩
  refine Ev.rounds (g := fun k => sequiturlaw04_FaultFirsts.f k l) ?_
  unfold sequiturlaw04_FaultFirsts.f
  by_cases h : (l.length : Int) > 500
  · exact Ev.pos h (Ev.now _)
  · refine Ev.neg h (Ev.bind (first_loop l (by omega) l.length 0 0 0 (by omega)) ?_)
    exact law_loop l (by omega) _ _ l.length 0 0 0 (by omega) rfl
end Go.Proofs.Ytkhagjopkghpkaa.Pure
