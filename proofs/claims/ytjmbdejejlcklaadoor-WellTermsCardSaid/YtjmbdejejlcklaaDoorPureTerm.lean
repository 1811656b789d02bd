/-
  Terms, no program in sight: how many parts there are, how deep they lie, what is wrong with them: what the document's answer reckons is what the plain functions say.
-/
import Derived.Test.YtjmbdejejlcklaaDoorPureBase
import Derived.Test.YtjmbdejejlcklaaDoorPrint1
import Derived.Test.YtjmbdejejlcklaaDoorPrint2
import Derived.Test.YtjmbdejejlcklaaDoorPrint4
import Derived.Test.YtjmbdejejlcklaaDoorPrint5
import Derived.Test.YtjmbdejejlcklaaDoorPrint6
namespace Go.Proofs.YtjmbdejejlcklaaDoor.Pure
set_option linter.unusedVariables false
set_option linter.unusedSimpArgs false
open Go.RowKit Go.Proofs.YtjmbdejejlcklaaDoor.Print Go.Proofs.YtjmbdejejlcklaaDoor.Spec Go.Proofs.YtjmbdejejlcklaaDoor.Aux Go.Proofs.YtjmbdejejlcklaaDoorW.PrintWords Go.Proofs.YtjmbdejejlcklaaDoorW.PrintLast Go.Proofs.YtjmbdejejlcklaaDoorW.PrintMore

theorem sz_lt (x : S29) : SizeOf.sizeOf x.f3 < SizeOf.sizeOf x := by cases x; simp; omega
theorem sz_arg (x : S29) (i : Nat) (h : i < x.f3.length) : SizeOf.sizeOf x.f3[i] < SizeOf.sizeOf x := by
  have h1 := List.sizeOf_lt_of_mem (List.getElem_mem h)
  have h2 := sz_lt x
  omega
theorem lenT_G : ∀ (d : Nat) (x : S29), SizeOf.sizeOf x ≤ d → G29 x → lenT x
  | 0, x, hd, _ => by cases x; simp at hd
  | d + 1, x, hd, h => by
    rw [lenT_eq, lenL_iff]
    obtain ⟨_, h0, h1, h2, h3, hr⟩ := h
    refine ⟨by unfold maxLen at h3; omega, fun i hi => ?_⟩
    have := sz_arg x i hi
    exact lenT_G d _ (by omega) (hr _ (List.getElem_mem hi))
theorem lenT_arg {x : S29} (h : lenT x) (i : Nat) (hi : i < x.f3.length) : lenT x.f3[i] := by
  rw [lenT_eq, lenL_iff] at h
  exact h.2 i hi
theorem lenT_len {x : S29} (h : lenT x) : x.f3.length ≤ 9223372036854775807 := by
  rw [lenT_eq] at h
  exact h.1
/-- How many parts there are: what the reference counts, up to a bound. -/
theorem size_ev : ∀ (d : Nat) (x : S29), SizeOf.sizeOf x ≤ d → lenT x → ∀ m : Nat, m ≤ 100000 → Ev (fun k => sequiturbase_Size.f k x.f0 x.f1 x.f2 x.f3 (m : Int)) ((min (keysT x).length (m + 1) : Nat) : Int)
  | 0, x, hd, _, _, _ => by cases x; simp at hd
  | d + 1, x, hd, hl, m, hm => by
    have hlen := lenT_len hl
    have loop : ∀ (e i : Nat), i + e = x.f3.length → Ev (fun k => sequiturbase_Size.l0 k (m : Int) ((min ((keysL (x.f3.take i)).length + 1) (m + 1) : Nat) : Int) (i : Int) x.f0 x.f1 x.f2 x.f3) ((min (keysT x).length (m + 1) : Nat) : Int) := by
      intro e
      induction e with
      | zero =>
        intro i hi
        refine Ev.step (f := fun _ => some _) (fun k => ?_) (Ev.now _)
        simp only [sequiturbase_Size.l0]
        rw [if_neg (by omega), List.take_of_length_le (by omega), keysT_eq, List.length_cons]
      | succ e ih =>
        intro i hi
        have hlt : i < x.f3.length := by omega
        have ih2 := ih (i + 1) (by omega)
        rw [keysL_take _ i hlt, List.length_append] at ih2
        by_cases hmm : (keysL (x.f3.take i)).length + 1 ≤ m
        · have hs := sz_arg x i hlt
          have hin := size_ev d x.f3[i] (by omega) (lenT_arg hl i hlt) (m - ((keysL (x.f3.take i)).length + 1)) (by omega)
          have c1 : (i : Int) < (x.f3.length : Int) := by omega
          have c2 : ((min ((keysL (x.f3.take i)).length + 1) (m + 1) : Nat) : Int) ≤ (m : Int) := by omega
          have c3 : (0 : Int) ≤ (i : Int) := by omega
          have e1 : (m : Int) - ((min ((keysL (x.f3.take i)).length + 1) (m + 1) : Nat) : Int) = ((m - ((keysL (x.f3.take i)).length + 1) : Nat) : Int) := by omega
          have e2 : ((min ((keysL (x.f3.take i)).length + 1) (m + 1) : Nat) : Int) + ((min (keysT x.f3[i]).length (m - ((keysL (x.f3.take i)).length + 1) + 1) : Nat) : Int) = ((min ((keysL (x.f3.take i)).length + (keysT x.f3[i]).length + 1) (m + 1) : Nat) : Int) := by omega
          have w1 : wrap64 ((m : Int) - ((min ((keysL (x.f3.take i)).length + 1) (m + 1) : Nat) : Int)) = ((m - ((keysL (x.f3.take i)).length + 1) : Nat) : Int) := (wrap_in _ (by omega) (by omega)).trans e1
          have w2 : wrap64 (((min ((keysL (x.f3.take i)).length + 1) (m + 1) : Nat) : Int) + ((min (keysT x.f3[i]).length (m - ((keysL (x.f3.take i)).length + 1) + 1) : Nat) : Int)) = ((min ((keysL (x.f3.take i)).length + (keysT x.f3[i]).length + 1) (m + 1) : Nat) : Int) := (wrap_in _ (by omega) (by omega)).trans e2
          have w3 : wrap64 ((i : Int) + 1) = ((i + 1 : Nat) : Int) := wrap_succ i (by omega)
          clear e1 e2
          rw [← w2] at ih2
          clear w2
          refine Ev.step (f := fun k => (sequiturbase_Size.f k x.f3[i].f0 x.f3[i].f1 x.f3[i].f2 x.f3[i].f3 ((m - ((keysL (x.f3.take i)).length + 1) : Nat) : Int)).bind fun t => sequiturbase_Size.l0 k (m : Int) (wrap64 (((min ((keysL (x.f3.take i)).length + 1) (m + 1) : Nat) : Int) + t)) ((i + 1 : Nat) : Int) x.f0 x.f1 x.f2 x.f3) (fun k => ?_) (Ev.bind hin ih2)
          simp only [sequiturbase_Size.l0]
          rw [if_pos c1, if_pos c2, if_pos c3, rd29 _ i hlt, w1, w3]
        · have hpre := (keysL_pre x.f3 i).length_le
          refine Ev.step (f := fun _ => some _) (fun k => ?_) (Ev.some_ (r := ((min ((keysL (x.f3.take i)).length + 1) (m + 1) : Nat) : Int)) (by rw [keysT_eq, List.length_cons]; omega))
          simp only [sequiturbase_Size.l0]
          rw [if_pos (by omega), if_neg (by omega)]
    refine Ev.step (fun k => ?_) (loop x.f3.length 0 (by omega))
    simp only [sequiturbase_Size.f]
    rw [List.take_zero]
    simp [keysL]
/-- How deep a term is: what the reference reckons, up to a bound. -/
theorem rdepth_ev : ∀ (d : Nat) (x : S29), SizeOf.sizeOf x ≤ d → lenT x → ∀ m : Nat, m ≤ 64 → Ev (fun k => sequiturref07_depth.f k x.f0 x.f1 x.f2 x.f3 (m : Int)) ((min (depT x) (m + 1) : Nat) : Int)
  | 0, x, hd, _, _, _ => by cases x; simp at hd
  | d + 1, x, hd, hl, m, hm => by
    have hlen := lenT_len hl
    have loop : ∀ (e i : Nat), i + e = x.f3.length → Ev (fun k => sequiturref07_depth.l0 k (m : Int) ((min (depL (x.f3.take i) + 1) (m + 1) : Nat) : Int) (i : Int) x.f0 x.f1 x.f2 x.f3) ((min (depT x) (m + 1) : Nat) : Int) := by
      intro e
      induction e with
      | zero =>
        intro i hi
        refine Ev.step (f := fun _ => some _) (fun k => ?_) (Ev.now _)
        simp only [sequiturref07_depth.l0]
        rw [if_neg (by omega), List.take_of_length_le (by omega), depT_eq]
      | succ e ih =>
        intro i hi
        have hlt : i < x.f3.length := by omega
        have ih2 := ih (i + 1) (by omega)
        rw [depL_take _ i hlt] at ih2
        by_cases hmm : depL (x.f3.take i) + 1 ≤ m
        · have hs := sz_arg x i hlt
          have hin := rdepth_ev d x.f3[i] (by omega) (lenT_arg hl i hlt) (m - 1) (by omega)
          have c1 : (i : Int) < (x.f3.length : Int) := by omega
          have c2 : ((min (depL (x.f3.take i) + 1) (m + 1) : Nat) : Int) ≤ (m : Int) := by omega
          have c3 : (0 : Int) ≤ (i : Int) := by omega
          have e2 : mx ((min (depL (x.f3.take i) + 1) (m + 1) : Nat) : Int) (wrap64 (1 + ((min (depT x.f3[i]) (m - 1 + 1) : Nat) : Int))) = ((min (max (depL (x.f3.take i)) (depT x.f3[i]) + 1) (m + 1) : Nat) : Int) := by
            rw [wrap_in _ (by omega) (by omega)]
            unfold mx
            split <;> omega
          have w1 : wrap64 ((m : Int) - 1) = ((m - 1 : Nat) : Int) := (wrap_in _ (by omega) (by omega)).trans (by omega)
          have w3 : wrap64 ((i : Int) + 1) = ((i + 1 : Nat) : Int) := wrap_succ i (by omega)
          rw [← e2] at ih2
          clear e2
          refine Ev.step (f := fun k => (sequiturref07_depth.f k x.f3[i].f0 x.f3[i].f1 x.f3[i].f2 x.f3[i].f3 ((m - 1 : Nat) : Int)).bind fun t => sequiturref07_depth.l0 k (m : Int) (mx ((min (depL (x.f3.take i) + 1) (m + 1) : Nat) : Int) (wrap64 (1 + t))) ((i + 1 : Nat) : Int) x.f0 x.f1 x.f2 x.f3) (fun k => ?_) (Ev.bind hin ih2)
          simp only [sequiturref07_depth.l0]
          rw [if_pos c1, if_pos c2, if_pos c3, rd29 _ i hlt, w1, w3]
        · have hpre := depL_pre x.f3 i
          refine Ev.step (f := fun _ => some _) (fun k => ?_) (Ev.some_ (r := ((min (depL (x.f3.take i) + 1) (m + 1) : Nat) : Int)) (by rw [depT_eq]; omega))
          simp only [sequiturref07_depth.l0]
          rw [if_pos (by omega), if_neg (by omega)]
    refine Ev.step (fun k => ?_) (loop x.f3.length 0 (by omega))
    simp only [sequiturref07_depth.f]
    rw [List.take_zero]
    simp [depL]
theorem args_ev (op : Int) (h1 : 1 ≤ op) (h8 : op ≤ 8) : Ev (fun k => sequiturref07_args.f k op) (if op = 3 then -1 else needsTab.getD op.toNat 0) := by
  have h : op = 1 ∨ op = 2 ∨ op = 3 ∨ op = 4 ∨ op = 5 ∨ op = 6 ∨ op = 7 ∨ op = 8 := by omega
  rcases h with rfl | rfl | rfl | rfl | rfl | rfl | rfl | rfl <;> exact Ev.of (fun k => sequiturref07_args.mono _ k) (k := 3) rfl
theorem nm_isEmpty (nm : ByteArray) : (nm.toList != ([] : List UInt8)) = !nm.toList.isEmpty := bne_nil _
theorem order7 (P1 P2 P3 P4 P5 : Prop) [Decidable P1] [Decidable P2] [Decidable P3] [Decidable P4] [Decidable P5] (e : Int) :
    (if (if P1 then (7 : Int) else if P2 then 7 else if P3 then 7 else if P4 then 12 else if P5 then 12 else 0) ≠ 0 then (if P1 then (7 : Int) else if P2 then 7 else if P3 then 7 else if P4 then 12 else if P5 then 12 else 0) else e) = if P3 then 7 else if P2 then 7 else if P1 then 7 else if P4 then 12 else if P5 then 12 else e := by
  by_cases P1 <;> by_cases P2 <;> by_cases P3 <;> by_cases P4 <;> by_cases P5 <;> simp [*]
/-- The parts of a term, one by one: what the reference finds wrong first. -/
theorem rpart_ev : ∀ (d : Nat) (x : S29), SizeOf.sizeOf x ≤ d → lenT x → Ev (fun k => sequiturref07_part.f k x.f0 x.f1 x.f2 x.f3) (firstE (keysT x))
  | 0, x, hd, _ => by cases x; simp at hd
  | d + 1, x, hd, hl => by
    have hlen := lenT_len hl
    have loop : ∀ (e i : Nat), i + e = x.f3.length → Ev (fun k => sequiturref07_part.l0 k (i : Int) x.f0 x.f1 x.f2 x.f3) (firstE (keysL (x.f3.drop i))) := by
      intro e
      induction e with
      | zero =>
        intro i hi
        refine Ev.step (f := fun _ => some _) (fun k => ?_) (Ev.now _)
        simp only [sequiturref07_part.l0]
        rw [if_neg (by omega), List.drop_of_length_le (by omega)]
        rfl
      | succ e ih =>
        intro i hi
        have hlt : i < x.f3.length := by omega
        have ih2 := ih (i + 1) (by omega)
        have hs := sz_arg x i hlt
        have hin := rpart_ev d x.f3[i] (by omega) (lenT_arg hl i hlt)
        have w3 : wrap64 ((i : Int) + 1) = ((i + 1 : Nat) : Int) := wrap_succ i (by omega)
        rw [List.drop_eq_getElem_cons hlt, keysL, firstE_append]
        refine Ev.step (f := fun k => (sequiturref07_part.f k x.f3[i].f0 x.f3[i].f1 x.f3[i].f2 x.f3[i].f3).bind fun t => if t = 0 then sequiturref07_part.l0 k ((i + 1 : Nat) : Int) x.f0 x.f1 x.f2 x.f3 else some t) (fun k => ?_) (Ev.bind hin ?_)
        · simp only [sequiturref07_part.l0]
          rw [if_pos (by omega), if_pos (by omega), rd29 _ i hlt, w3]
        · by_cases h0 : firstE (keysT x.f3[i]) = 0
          · rw [if_neg (by simpa using h0)]
            exact Ev.pos h0 ih2
          · rw [if_pos h0]
            exact Ev.neg h0 (Ev.now _)
    have hloop := loop x.f3.length 0 (by omega)
    rw [List.drop_zero] at hloop
    rw [keysT_eq, firstE]
    obtain ⟨op, nm, nu, l⟩ := x
    dsimp only at hloop hlen ⊢
    have hj2 : ∀ b : Bool, Ev (fun k => sequiturref07_part.j2 k b op nm nu l) (if b = true then 12 else firstE (keysL l)) := by
      intro b
      cases b with
      | true => exact Ev.step (f := fun _ => some 12) (fun k => by simp only [sequiturref07_part.j2, if_true]) (Ev.now _)
      | false => exact Ev.step (fun k => by simp only [sequiturref07_part.j2, Bool.false_eq_true, if_false]; rfl) hloop
    by_cases hop : op < 1 ∨ 8 < op
    · have hp : partE op nm nu l.length = 7 := by unfold partE; rw [if_pos hop]
      rw [hp, if_pos (by omega)]
      have hj0 : Ev (fun k => sequiturref07_part.j0 k true op nm nu l) 7 := Ev.step (f := fun _ => some 7) (fun k => by simp only [sequiturref07_part.j0, if_true]) (Ev.now _)
      refine Ev.step (fun k => ?_) hj0
      simp only [sequiturref07_part.f]
      by_cases h1 : op < 1
      · rw [if_pos h1]
      · rw [if_neg h1, if_pos (by omega)]
    · have h1 : 1 ≤ op := by omega
      have h8 : op ≤ 8 := by omega
      -- behind the forms: the number of parts
      have hj1 : Ev (fun k => sequiturref07_part.j1 k false op nm nu l) (if needsTab.getD op.toNat 0 < (l.length : Int) then 12 else if op ≠ 3 ∧ (l.length : Int) ≠ needsTab.getD op.toNat 0 then 12 else firstE (keysL l)) := by
        refine Ev.step (f := fun k => (sequiturref07_args.f k op).bind fun t => if t ≥ 0 then (if (l.length : Int) = t then sequiturref07_part.j2 k (decide ((l.length : Int) > 8)) op nm nu l else sequiturref07_part.j2 k true op nm nu l) else sequiturref07_part.j2 k (decide ((l.length : Int) > 8)) op nm nu l) (fun k => by simp only [sequiturref07_part.j1, Bool.false_eq_true, if_false]) (Ev.bind (args_ev op h1 h8) ?_)
        by_cases h3 : op = 3
        · subst h3
          refine Ev.neg (by decide) (Ev.get (hj2 _) ?_)
          rw [show needsTab.getD ((3 : Int).toNat) 0 = 8 from rfl]
          by_cases h9 : (l.length : Int) > 8
          · rw [if_pos (decide_eq_true h9), if_pos (by omega)]
          · rw [if_neg (by simpa using h9), if_neg (by omega), if_neg (fun h => h.1 rfl)]
        · rw [if_neg h3]
          have hN : 0 ≤ needsTab.getD op.toNat 0 ∧ needsTab.getD op.toNat 0 ≤ 2 := by
            have h : op = 1 ∨ op = 2 ∨ op = 4 ∨ op = 5 ∨ op = 6 ∨ op = 7 ∨ op = 8 := by omega
            rcases h with rfl | rfl | rfl | rfl | rfl | rfl | rfl <;> decide
          generalize needsTab.getD op.toNat 0 = N at hN ⊢
          refine Ev.pos (by omega) ?_
          by_cases hn : (l.length : Int) = N
          · refine Ev.pos hn (Ev.get (hj2 _) ?_)
            rw [if_neg (by simp; omega), if_neg (by omega), if_neg (fun h => h.2 hn)]
          · refine Ev.neg hn (Ev.get (hj2 _) ?_)
            rw [if_pos rfl]
            by_cases hlt : N < (l.length : Int)
            · rw [if_pos hlt]
            · rw [if_neg hlt, if_pos ⟨h3, hn⟩]
      have hj1t : Ev (fun k => sequiturref07_part.j1 k true op nm nu l) 7 := Ev.step (f := fun _ => some 7) (fun k => by simp only [sequiturref07_part.j1, if_true]) (Ev.now _)
      have hj0t : Ev (fun k => sequiturref07_part.j0 k true op nm nu l) 7 := Ev.step (f := fun _ => some 7) (fun k => by simp only [sequiturref07_part.j0, if_true]) (Ev.now _)
      -- the name
      have hnm : Ev (fun k => if op = 1 then sequiturref07_part.j1 k false op nm nu l else if op = 3 then sequiturref07_part.j1 k false op nm nu l else sequiturref07_part.j1 k (nm.toList != ([] : List UInt8)) op nm nu l) (if nm.toList.isEmpty = false ∧ op ≠ 1 ∧ op ≠ 3 then 7 else if needsTab.getD op.toNat 0 < (l.length : Int) then 12 else if op ≠ 3 ∧ (l.length : Int) ≠ needsTab.getD op.toNat 0 then 12 else firstE (keysL l)) := by
        by_cases a1 : op = 1
        · refine Ev.pos a1 (Ev.get hj1 ?_)
          rw [if_neg (show ¬ (nm.toList.isEmpty = false ∧ op ≠ 1 ∧ op ≠ 3) from fun h => h.2.1 a1)]
        · refine Ev.neg a1 ?_
          by_cases a3 : op = 3
          · refine Ev.pos a3 (Ev.get hj1 ?_)
            rw [if_neg (show ¬ (nm.toList.isEmpty = false ∧ op ≠ 1 ∧ op ≠ 3) from fun h => h.2.2 a3)]
          · refine Ev.neg a3 ?_
            rw [nm_isEmpty]
            cases he : nm.toList.isEmpty with
            | true =>
              refine Ev.get hj1 ?_
              rw [if_neg (show ¬ (true = false ∧ op ≠ 1 ∧ op ≠ 3) from fun h => by cases h.1)]
            | false =>
              refine Ev.get hj1t ?_
              rw [if_pos ⟨rfl, a1, a3⟩]
      have hj0f : Ev (fun k => sequiturref07_part.j0 k false op nm nu l) (if nu ≠ 0 ∧ op ≠ 2 ∧ op ≠ 4 ∧ op ≠ 8 then 7 else if nm.toList.isEmpty = false ∧ op ≠ 1 ∧ op ≠ 3 then 7 else if needsTab.getD op.toNat 0 < (l.length : Int) then 12 else if op ≠ 3 ∧ (l.length : Int) ≠ needsTab.getD op.toNat 0 then 12 else firstE (keysL l)) := by
        by_cases c2 : op = 2
        · rw [if_neg (show ¬ (nu ≠ 0 ∧ op ≠ 2 ∧ op ≠ 4 ∧ op ≠ 8) from fun h => h.2.1 c2)]
          refine Ev.step (fun k => ?_) hnm
          simp only [sequiturref07_part.j0, Bool.false_eq_true, if_false]
          rw [if_pos c2]
        · by_cases c4 : op = 4
          · rw [if_neg (show ¬ (nu ≠ 0 ∧ op ≠ 2 ∧ op ≠ 4 ∧ op ≠ 8) from fun h => h.2.2.1 c4)]
            refine Ev.step (fun k => ?_) hnm
            simp only [sequiturref07_part.j0, Bool.false_eq_true, if_false]
            rw [if_neg c2, if_pos c4]
          · by_cases c8 : op = 8
            · rw [if_neg (show ¬ (nu ≠ 0 ∧ op ≠ 2 ∧ op ≠ 4 ∧ op ≠ 8) from fun h => h.2.2.2 c8)]
              refine Ev.step (fun k => ?_) hnm
              simp only [sequiturref07_part.j0, Bool.false_eq_true, if_false]
              rw [if_neg c2, if_neg c4, if_pos c8]
            · by_cases cu : nu = 0
              · rw [if_neg (show ¬ (nu ≠ 0 ∧ op ≠ 2 ∧ op ≠ 4 ∧ op ≠ 8) from fun h => h.1 cu)]
                refine Ev.step (fun k => ?_) hnm
                simp only [sequiturref07_part.j0, Bool.false_eq_true, if_false]
                rw [if_neg c2, if_neg c4, if_neg c8, if_pos cu]
              · rw [if_pos ⟨cu, c2, c4, c8⟩]
                have hx : Ev (fun k => if op = 1 then sequiturref07_part.j1 k false op nm nu l else if op = 3 then sequiturref07_part.j1 k false op nm nu l else sequiturref07_part.j1 k (nm.toList != ([] : List UInt8)) op nm nu l) (if nm.toList.isEmpty = false ∧ op ≠ 1 ∧ op ≠ 3 then 7 else if needsTab.getD op.toNat 0 < (l.length : Int) then 12 else if op ≠ 3 ∧ (l.length : Int) ≠ needsTab.getD op.toNat 0 then 12 else firstE (keysL l)) := hnm
                refine Ev.step (fun k => ?_) hj1t
                simp only [sequiturref07_part.j0, Bool.false_eq_true, if_false]
                rw [if_neg c2, if_neg c4, if_neg c8, if_neg cu]
      have hval : (if partE op nm nu l.length ≠ 0 then partE op nm nu l.length else firstE (keysL l)) = if op = 2 ∧ nu < 0 then 7 else (if nu ≠ 0 ∧ op ≠ 2 ∧ op ≠ 4 ∧ op ≠ 8 then 7 else if nm.toList.isEmpty = false ∧ op ≠ 1 ∧ op ≠ 3 then 7 else if needsTab.getD op.toNat 0 < (l.length : Int) then 12 else if op ≠ 3 ∧ (l.length : Int) ≠ needsTab.getD op.toNat 0 then 12 else firstE (keysL l)) := by
        unfold partE
        rw [if_neg hop]
        exact order7 _ _ _ _ _ _
      rw [hval]
      by_cases c2 : op = 2
      · by_cases cn : nu < 0
        · rw [if_pos ⟨c2, cn⟩]
          refine Ev.step (fun k => ?_) hj0t
          simp only [sequiturref07_part.f]
          rw [if_neg (by omega), if_neg (by omega), if_pos c2, decide_eq_true cn]
        · rw [if_neg (fun h => cn h.2)]
          refine Ev.step (fun k => ?_) hj0f
          simp only [sequiturref07_part.f]
          rw [if_neg (by omega), if_neg (by omega), if_pos c2, decide_eq_false cn]
      · rw [if_neg (fun h => c2 h.1)]
        refine Ev.step (fun k => ?_) hj0f
        simp only [sequiturref07_part.f]
        rw [if_neg (by omega), if_neg (by omega), if_neg c2]
/-- What is wrong with a term: the reference says what the plain function says. -/
theorem rright_ev (x : S29) (hl : lenT x) : Ev (fun k => sequiturref07_Right.f k x.f0 x.f1 x.f2 x.f3) (rightT x) := by
  unfold sequiturref07_Right.f sequiturref07_Depth.f sequiturref07_Size.f rightT
  refine Ev.bind (Ev.bind (a := ((min (depT x) (64 + 1) : Nat) : Int)) (rdepth_ev _ x (Nat.le_refl _) hl 64 (Nat.le_refl _)) (Ev.now _)) ?_
  have hmn : mn ((min (depT x) (64 + 1) : Nat) : Int) 65 = ((min (depT x) 65 : Nat) : Int) := by unfold mn; split <;> omega
  rw [hmn]
  by_cases hd : 64 < depT x
  · rw [if_pos hd]
    exact Ev.pos (by omega) (Ev.now _)
  · rw [if_neg hd]
    refine Ev.neg (by omega) ?_
    refine Ev.bind (Ev.bind (a := ((min (keysT x).length (4096 + 1) : Nat) : Int)) (size_ev _ x (Nat.le_refl _) hl 4096 (by omega)) (Ev.now _)) ?_
    have hmn2 : mn ((min (keysT x).length (4096 + 1) : Nat) : Int) 4097 = ((min (keysT x).length 4097 : Nat) : Int) := by unfold mn; split <;> omega
    rw [hmn2]
    by_cases hs : 4096 < (keysT x).length
    · rw [if_pos hs]
      exact Ev.pos (by omega) (Ev.now _)
    · rw [if_neg hs]
      refine Ev.neg (by omega) ?_
      exact Ev.bind (rpart_ev _ x (Nat.le_refl _) hl) (Ev.now _)
end Go.Proofs.YtjmbdejejlcklaaDoor.Pure
