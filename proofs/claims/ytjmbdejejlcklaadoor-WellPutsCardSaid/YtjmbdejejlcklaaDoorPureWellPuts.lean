/-
  WellPuts
-/
import Derived.Test.YtjmbdejejlcklaaDoorPureWell
import Derived.Test.YtjmbdejejlcklaaDoorPrint4
import Derived.Test.YtjmbdejejlcklaaDoorPrint5
namespace Go.Proofs.YtjmbdejejlcklaaDoor.Pure
set_option linter.unusedVariables false
set_option linter.unusedSimpArgs false
open Go.RowKit Go.Proofs.YtjmbdejejlcklaaDoor.Print Go.Proofs.YtjmbdejejlcklaaDoor.Spec Go.Proofs.YtjmbdejejlcklaaDoor.Aux Go.Proofs.YtjmbdejejlcklaaDoorW.PrintWords Go.Proofs.YtjmbdejejlcklaaDoorW.PrintLast Go.Proofs.YtjmbdejejlcklaaDoorW.PrintMore

theorem goes_ev : Ev (fun k => sequiturlaw13_goes.f k) true := Ev.of (fun k => sequiturlaw13_goes.mono k) (k := 8) (by decide +kernel)
theorem i64_in {n : Int} (h : (Lit.int .i64 n).wf = true) : -9223372036854775808 ≤ n ∧ n ≤ 9223372036854775807 := by
  simp [Lit.wf, IntKind.min, IntKind.max, IntKind.signed, IntKind.bits] at h
  omega
theorem T_eta (x : S29) : (⟨x.f0, x.f1, x.f2, x.f3⟩ : S29) = x := by cases x; rfl
theorem term_f (sorts : List ByteArray) (funs : List S63) (vars : List S65) (x : S29) : well_Term.f sorts funs vars x.f0 x.f1 x.f2 x.f3 = some (withinR funs vars [] x) := by
  cases x; rfl
theorem firstE_zero : ∀ l : List (Int × ByteArray × Int × Nat), (∀ k ∈ l, partE k.1 k.2.1 k.2.2.1 k.2.2.2 = 0) → firstE l = 0
  | [], _ => rfl
  | (op, nm, nu, n) :: l, h => by
    have h0 := h _ List.mem_cons_self
    dsimp only at h0
    rw [firstE, if_neg (by simpa using h0)]
    exact firstE_zero l (fun k hk => h k (List.mem_cons_of_mem _ hk))
theorem keysT_pos (x : S29) : 1 ≤ (keysT x).length := by rw [keysT_eq, List.length_cons]; omega
theorem keysL_long : ∀ l : List S29, l.length ≤ (keysL l).length
  | [] => Nat.le_refl _
  | x :: l => by
    have h1 := keysT_pos x
    have h2 := keysL_long l
    rw [keysL, List.length_append, List.length_cons]
    omega
theorem keysL_part (y : S29) : ∀ l : List S29, y ∈ l → (keysT y).length ≤ (keysL l).length
  | [], h => by simp at h
  | x :: l, h => by
    rw [keysL, List.length_append]
    rcases List.mem_cons.1 h with rfl | h
    · omega
    · have := keysL_part y l h
      omega
/-- The first term of a name. -/
def getP : List S45 → ByteArray → Option S29
  | [], _ => none
  | p :: l, s => if p.f0.toList = s.toList then some p.f1 else getP l s
mutual
/-- Terms put for a term's variables. -/
def apT (l : List S45) : S29 → S29
  | ⟨op, nm, nu, xs⟩ => match getP l nm with
    | some x => if op = 1 then x else ⟨op, nm, nu, apL l xs⟩
    | none => ⟨op, nm, nu, apL l xs⟩
def apL (l : List S45) : List S29 → List S29
  | [] => []
  | x :: xs => apT l x :: apL l xs
end
theorem apL_len (l : List S45) : ∀ xs, (apL l xs).length = xs.length
  | [] => rfl
  | x :: xs => by rw [apL, List.length_cons, List.length_cons, apL_len l xs]
theorem apL_take (l : List S45) : ∀ (xs : List S29) (i : Nat) (h : i < xs.length), apL l (xs.take (i + 1)) = apL l (xs.take i) ++ [apT l xs[i]]
  | [], i, h => by simp at h
  | x :: xs, 0, h => by simp [apL]
  | x :: xs, i + 1, h => by
    rw [List.take_succ_cons, List.take_succ_cons, apL, apL, List.cons_append, apL_take l xs i (by simpa using h)]
    rfl
theorem pair_rd (l : List S45) (i : Nat) (h : i < l.length) : rd_T45 l (i : Int) = l[i] := by
  unfold rd_T45
  rw [Int.toNat_natCast, List.getD_eq_getElem?_getD, List.getElem?_eq_getElem h]; rfl
/-- What Get tells. -/
def getV : Option S29 → Int × ByteArray × Int × List S29 × Bool
  | some x => (x.f0, x.f1, x.f2, x.f3, true)
  | none => (0, ⟨#[]⟩, 0, [], false)
theorem rget_ev (s : ByteArray) (l : List S45) (hl : l.length ≤ 1000) : ∀ (d i : Nat), i + d = l.length → Ev (fun k => sequiturref10_Get.l0 k l s (i : Int)) (getV (getP (l.drop i) s))
  | 0, i, h => by
    refine Ev.step (f := fun _ => some _) (fun k => ?_) (Ev.now _)
    simp only [sequiturref10_Get.l0]
    rw [if_neg (by omega), List.drop_of_length_le (by omega)]
    rfl
  | d + 1, i, h => by
    have hlt : i < l.length := by omega
    have ih := rget_ev s l hl d (i + 1) (by omega)
    rw [List.drop_eq_getElem_cons hlt, getP]
    by_cases e : (l[i]).f0.toList = s.toList
    · rw [if_pos e]
      refine Ev.step (f := fun _ => some _) (fun k => ?_) (Ev.now _)
      simp only [sequiturref10_Get.l0]
      rw [if_pos (by omega), if_pos (by omega), pair_rd l i hlt, if_pos e]
      rfl
    · rw [if_neg e]
      refine Ev.step (fun k => ?_) ih
      simp only [sequiturref10_Get.l0]
      rw [if_pos (by omega), if_pos (by omega), pair_rd l i hlt, if_neg e, wrap_succ i (by omega)]
theorem G_nu {x : S29} (h : G29 x) : (Lit.int .i64 x.f2).wf = true ∧ ∀ y ∈ x.f3, G29 y := by
  obtain ⟨_, h0, h1, h2, h3, hr⟩ := h
  exact ⟨h2, hr⟩
/-- A term that is lifted by nothing. -/
theorem lift_ev : ∀ (d : Nat) (x : S29), SizeOf.sizeOf x ≤ d → G29 x → okT x → Ev (fun k => sequiturref10_Lift.f k x.f0 x.f1 x.f2 x.f3 0) (x.f0, x.f1, x.f2, x.f3)
  | 0, x, hd, _, _ => by cases x; simp at hd
  | d + 1, x, hd, hG, hok => by
    obtain ⟨hnu, hGs⟩ := G_nu hG
    have hp := okT_own hok
    obtain ⟨_, _, pn, _, _⟩ := part_ok hp
    have hw : wrap64 (x.f2 + 0) = x.f2 := by
      have := i64_in hnu
      rw [wrap_in _ (by omega) (by omega)]
      omega
    have loop : ∀ (e i : Nat), i + e = x.f3.length → Ev (fun k => sequiturref10_Lift.l0 k 0 (x.f3.take i) (i : Int) x.f0 x.f1 x.f2 x.f3) (x.f0, x.f1, x.f2, x.f3) := by
      intro e
      induction e with
      | zero =>
        intro i hi
        refine Ev.step (f := fun _ => some _) (fun k => ?_) (Ev.now _)
        simp only [sequiturref10_Lift.l0]
        rw [if_neg (by omega), List.take_of_length_le (by omega)]
        rfl
      | succ e ih =>
        intro i hi
        have hlt : i < x.f3.length := by omega
        have hmem := List.getElem_mem hlt
        have hs := sz_arg x i hlt
        have hin := lift_ev d x.f3[i] (by omega) (hGs _ hmem) (okT_arg hok _ hmem)
        have ih2 := ih (i + 1) (by omega)
        rw [List.take_succ_eq_append_getElem hlt] at ih2
        refine Ev.step (f := fun k => (sequiturref10_Lift.f k x.f3[i].f0 x.f3[i].f1 x.f3[i].f2 x.f3[i].f3 0).bind fun r => sequiturref10_Lift.l0 k 0 (x.f3.take i ++ [⟨r.1, r.2.1, r.2.2.1, r.2.2.2⟩]) ((i + 1 : Nat) : Int) x.f0 x.f1 x.f2 x.f3) (fun k => ?_) (Ev.bind hin (by dsimp only; rw [T_eta]; exact ih2))
        simp only [sequiturref10_Lift.l0]
        rw [if_pos (by omega), if_pos (by omega), rd29 _ i hlt, wrap_succ i (by omega)]
        congr 1
        funext r
        rw [if_pos (show (x.f3.take i).length < 2513169434916 by simp; omega)]
    have hloop := loop x.f3.length 0 (by omega)
    rw [List.take_zero] at hloop
    have hj : Ev (fun k => sequiturref10_Lift.j0 k 0 x.f0 x.f1 x.f2 x.f3) (x.f0, x.f1, x.f2, x.f3) := Ev.step (fun k => by simp only [sequiturref10_Lift.j0]; rfl) hloop
    refine Ev.step (fun k => ?_) hj
    simp only [sequiturref10_Lift.f]
    rw [hw]
    split <;> rfl
/-- What a list of pairs holds: terms that may be. -/
def okP (l : List S45) : Prop := ∀ p ∈ l, G29 p.f1 ∧ okT p.f1
theorem getP_mem : ∀ (l : List S45) (s : ByteArray) (x : S29), getP l s = some x → ∃ p ∈ l, p.f0.toList = s.toList ∧ p.f1 = x
  | [], s, x, h => by cases h
  | p :: l, s, x, h => by
    rw [getP] at h
    by_cases e : p.f0.toList = s.toList
    · rw [if_pos e] at h
      exact ⟨p, List.mem_cons_self, e, Option.some.inj h⟩
    · rw [if_neg e] at h
      obtain ⟨q, hq, h1, h2⟩ := getP_mem l s x h
      exact ⟨q, List.mem_cons_of_mem _ hq, h1, h2⟩
theorem apT_eq (l : List S45) (op : Int) (nm : ByteArray) (nu : Int) (xs : List S29) : apT l ⟨op, nm, nu, xs⟩ = match getP l nm with
    | some x => if op = 1 then x else ⟨op, nm, nu, apL l xs⟩
    | none => ⟨op, nm, nu, apL l xs⟩ := by rw [apT]
/-- What the document's answer puts. -/
theorem apply_ev (l : List S45) (hl : l.length ≤ 1000) (hP : okP l) : ∀ (d : Nat) (x : S29), SizeOf.sizeOf x ≤ d → (keysT x).length ≤ 100 → Ev (fun k => sequiturref10_apply.f k l x.f0 x.f1 x.f2 x.f3 0) ((apT l x).f0, (apT l x).f1, (apT l x).f2, (apT l x).f3)
  | 0, x, hd, _ => by cases x; simp at hd
  | d + 1, x, hd, hk => by
    obtain ⟨op, nm, nu, xs⟩ := x
    rw [keysT_eq, List.length_cons] at hk
    dsimp only at hk ⊢
    have hlong := keysL_long xs
    have loop : ∀ (e i : Nat), i + e = xs.length → Ev (fun k => sequiturref10_apply.l0 k l 0 (apL l (xs.take i)) (i : Int) op nm nu xs) (op, nm, nu, apL l xs) := by
      intro e
      induction e with
      | zero =>
        intro i hi
        refine Ev.step (f := fun _ => some _) (fun k => ?_) (Ev.now _)
        simp only [sequiturref10_apply.l0]
        rw [if_neg (by omega), List.take_of_length_le (by omega)]
        rfl
      | succ e ih =>
        intro i hi
        have hlt : i < xs.length := by omega
        have hmem := List.getElem_mem hlt
        have hs := sz_arg ⟨op, nm, nu, xs⟩ i hlt
        dsimp only at hs
        have hkp := keysL_part _ _ hmem
        have hin := apply_ev l hl hP d xs[i] (by omega) (by omega)
        have ih2 := ih (i + 1) (by omega)
        have hal := apL_len l (xs.take i)
        rw [List.length_take] at hal
        rw [apL_take l xs i hlt] at ih2
        refine Ev.step (f := fun k => (sequiturref10_apply.f k l xs[i].f0 xs[i].f1 xs[i].f2 xs[i].f3 0).bind fun r => sequiturref10_apply.l0 k l 0 (apL l (xs.take i) ++ [⟨r.1, r.2.1, r.2.2.1, r.2.2.2⟩]) ((i + 1 : Nat) : Int) op nm nu xs) (fun k => ?_) (Ev.bind hin (by dsimp only; rw [T_eta]; exact ih2))
        simp only [sequiturref10_apply.l0]
        rw [if_pos (by omega), if_pos (by omega), rd29 _ i hlt, wrap_succ i (by omega)]
        congr 1
        funext r
        rw [if_pos (show (apL l (xs.take i)).length < 2513169434916 by omega)]
    have hloop := loop xs.length 0 (by omega)
    rw [List.take_zero] at hloop
    have hjf : ∀ a b c e, Ev (fun k => sequiturref10_apply.j0 k l 0 false op nm nu xs a b c e) (op, nm, nu, apL l xs) := fun a b c e => Ev.step (fun k => by simp only [sequiturref10_apply.j0, Bool.false_eq_true, if_false]; rfl) hloop
    refine Ev.step (f := fun k => (sequiturref10_Get.f k l nm).bind fun r => if r.2.2.2.2 = true then sequiturref10_apply.j0 k l 0 (op == 1) op nm nu xs r.1 r.2.1 r.2.2.1 r.2.2.2.1 else sequiturref10_apply.j0 k l 0 false op nm nu xs r.1 r.2.1 r.2.2.1 r.2.2.2.1) (fun k => by simp only [sequiturref10_apply.f]) (Ev.bind (rget_ev nm l hl l.length 0 (by omega)) ?_)
    rw [List.drop_zero, apT_eq]
    cases hg : getP l nm with
    | none => exact Ev.neg (by decide) (hjf _ _ _ _)
    | some x =>
      dsimp only
      refine Ev.pos rfl ?_
      by_cases h1 : op = 1
      · rw [if_pos h1, show (op == 1) = true by simpa using h1]
        obtain ⟨p, hp, _, rfl⟩ := getP_mem l nm x hg
        obtain ⟨hG, hok⟩ := hP p hp
        refine Ev.step (f := fun k => (sequiturref10_Lift.f k p.f1.f0 p.f1.f1 p.f1.f2 p.f1.f3 0).bind fun r => some (r.1, r.2.1, r.2.2.1, r.2.2.2)) (fun k => ?_) (Ev.bind (lift_ev _ p.f1 (Nat.le_refl _) hG hok) (Ev.now _))
        simp only [sequiturref10_apply.j0, if_true]
        rfl
      · rw [if_neg h1, show (op == 1) = false by simpa using h1]
        exact hjf _ _ _ _
/-- What a pair must be to fit: its term may be, and is of its name's sort. -/
def fitP (funs : List S63) (vars : List S65) (p : S45) : Prop := G29 p.f1 ∧ okT p.f1 ∧ (sortL vars p.f0).2 = true ∧ wTerm funs vars [] p.f1 [] = ((sortL vars p.f0).1, [], 0)
theorem sortL_same (s s' : ByteArray) (h : s.toList = s'.toList) : ∀ vars : List S65, sortL vars s = sortL vars s'
  | [] => rfl
  | v :: vars => by rw [sortL, sortL, h, sortL_same s s' h vars]
theorem wAll_ap (funs : List S63) (vars : List S65) (l : List S45) : ∀ (xs : List S29), (∀ y ∈ xs, (wTerm funs vars [] y []).2.2 = 0 → wTerm funs vars [] (apT l y) [] = wTerm funs vars [] y []) → ∀ (i : Nat) (acc : List ByteArray), (wAll funs vars [] xs [] i acc).2.2 = 0 → wAll funs vars [] (apL l xs) [] i acc = wAll funs vars [] xs [] i acc
  | [], _, i, acc, _ => rfl
  | t :: xs, H, i, acc, h => by
    have h1 := wTerm_ahd funs vars [] _ t (Nat.le_refl _) ([] ++ [(i : Int)])
    have h2 := wTerm_ahd funs vars [] _ (apT l t) (Nat.le_refl _) ([] ++ [(i : Int)])
    rw [apL, wAll, wAll]
    rw [wAll] at h
    by_cases h0 : (wTerm funs vars [] t []).2.2 = 0
    · have h3 := H t List.mem_cons_self h0
      rw [h3, ← h1] at h2
      have h4 : ¬ (wTerm funs vars [] t ([] ++ [(i : Int)])).2.2 ≠ 0 := by rw [h1]; simpa [ahd] using h0
      rw [if_neg h4] at h
      rw [h2, if_neg h4, if_neg h4]
      exact wAll_ap funs vars l xs (fun y hy => H y (List.mem_cons_of_mem _ hy)) _ _ h
    · have h4 : (wTerm funs vars [] t ([] ++ [(i : Int)])).2.2 ≠ 0 := by rw [h1]; simpa [ahd] using h0
      rw [if_pos h4] at h
      exact absurd h h4
theorem wAll_each (funs : List S63) (vars : List S65) : ∀ (xs : List S29) (i : Nat) (acc : List ByteArray), (wAll funs vars [] xs [] i acc).2.2 = 0 → ∀ y ∈ xs, (wTerm funs vars [] y []).2.2 = 0
  | [], _, _, _, y, hy => by simp at hy
  | t :: xs, i, acc, h, y, hy => by
    have h1 := wTerm_ahd funs vars [] _ t (Nat.le_refl _) ([] ++ [(i : Int)])
    rw [wAll] at h
    by_cases h0 : (wTerm funs vars [] t []).2.2 = 0
    · rw [if_neg (by rw [h1]; simpa [ahd] using h0)] at h
      rcases List.mem_cons.1 hy with rfl | hy
      · exact h0
      · exact wAll_each funs vars xs _ _ h y hy
    · have h4 : (wTerm funs vars [] t ([] ++ [(i : Int)])).2.2 ≠ 0 := by rw [h1]; simpa [ahd] using h0
      rw [if_pos h4] at h
      exact absurd h h4
theorem okL_ap (l : List S45) : ∀ xs : List S29, (∀ y ∈ xs, okT (apT l y)) → ∀ k ∈ keysL (apL l xs), partE k.1 k.2.1 k.2.2.1 k.2.2.2 = 0
  | [], _, k, hk => by simp [apL, keysL] at hk
  | x :: xs, H, k, hk => by
    rw [apL, keysL, List.mem_append] at hk
    rcases hk with hk | hk
    · exact H x List.mem_cons_self k hk
    · exact okL_ap l xs (fun y hy => H y (List.mem_cons_of_mem _ hy)) k hk
/-- A term's sort stays, whatever fitting terms are put. -/
theorem put_sort (funs : List S63) (vars : List S65) (l : List S45) (hF : ∀ p ∈ l, fitP funs vars p) : ∀ (d : Nat) (x : S29), SizeOf.sizeOf x ≤ d → okT x → (wTerm funs vars [] x []).2.2 = 0 → okT (apT l x) ∧ wTerm funs vars [] (apT l x) [] = wTerm funs vars [] x []
  | 0, x, hd, _, _ => by cases x; simp at hd
  | d + 1, x, hd, hok, h0 => by
    have hp := okT_own hok
    have hargs := fun y hy => okT_arg hok y hy
    obtain ⟨op, nm, nu, xs⟩ := x
    dsimp only at hp hargs
    rw [wTerm_eq] at h0 ⊢
    have hA : (wAll funs vars [] xs [] 0 []).2.2 = 0 := by
      unfold tailW at h0
      by_cases e : (wAll funs vars [] xs [] 0 []).2.2 = 0
      · exact e
      · rw [if_pos e] at h0
        exact absurd h0 e
    have hT : tailW funs vars [] op nm nu [] (wAll funs vars [] xs [] 0 []) = ownW funs vars [] op nm nu [] (wAll funs vars [] xs [] 0 []).1 := by
      unfold tailW
      rw [if_neg (by simpa using hA)]
    have hsub : ∀ y ∈ xs, okT (apT l y) ∧ wTerm funs vars [] (apT l y) [] = wTerm funs vars [] y [] := fun y hy => by
      have h1 := List.sizeOf_lt_of_mem hy
      simp at hd
      exact put_sort funs vars l hF d y (by omega) (hargs y hy) (wAll_each funs vars xs 0 [] hA y hy)
    have hother : okT ⟨op, nm, nu, apL l xs⟩ ∧ wTerm funs vars [] ⟨op, nm, nu, apL l xs⟩ [] = tailW funs vars [] op nm nu [] (wAll funs vars [] xs [] 0 []) := by
      constructor
      · intro k hk
        rw [keysT_eq] at hk
        dsimp only at hk
        rw [apL_len] at hk
        rcases List.mem_cons.1 hk with rfl | hk
        · exact hp
        · exact okL_ap l xs (fun y hy => (hsub y hy).1) k hk
      · rw [wTerm_eq, wAll_ap funs vars l xs (fun y hy _ => (hsub y hy).2) 0 [] hA]
    rw [apT_eq]
    cases hg : getP l nm with
    | none => exact hother
    | some x =>
      dsimp only
      by_cases h1 : op = 1
      · rw [if_pos h1]
        obtain ⟨p, hpm, hn, rfl⟩ := getP_mem l nm x hg
        obtain ⟨hG, hok2, hs, hw⟩ := hF p hpm
        rw [sortL_same _ _ hn vars] at hs hw
        refine ⟨hok2, ?_⟩
        rw [hT, hw]
        unfold ownW
        rw [if_pos h1, if_pos hs]
      · rw [if_neg h1]
        exact hother
theorem WellPuts : sequiturlaw13_WellPuts.Pure := by
  intro sorts funs vars op nm nu xs l hs hf hv ho hn hu hx hl
  have hT := lenT_top (op := op) (nm := nm) (nu := nu) hx
  have hjt : ∀ a b c e, Ev (fun k => sequiturlaw13_WellPuts.j2 k a b c e true) true := fun a b c e => by
    refine Ev.step (f := fun k => (sequiturlaw13_goes.f k).bind fun t => some t) (fun k => ?_) (Ev.bind goes_ev (Ev.now _))
    simp only [sequiturlaw13_WellPuts.j2, if_true]
  have hj0t : Ev (fun k => sequiturlaw13_WellPuts.j0 k vars l true sorts funs op nm nu xs) true := by
    refine Ev.step (f := fun k => (sequiturlaw13_goes.f k).bind fun t => some t) (fun k => ?_) (Ev.bind goes_ev (Ev.now _))
    simp only [sequiturlaw13_WellPuts.j0, if_true]
  have loop : (keysT (⟨op, nm, nu, xs⟩ : S29)).length ≤ 60 → l.length ≤ 12 → ∀ (e i : Nat), i + e = l.length → ∀ fit : List S45, fit.length ≤ i → (∀ p ∈ fit, fitP funs vars p) → Ev (fun k => sequiturlaw13_WellPuts.l0 k vars l (withinR funs vars [] ⟨op, nm, nu, xs⟩).1 (withinR funs vars [] ⟨op, nm, nu, xs⟩).2.2 fit (i : Int) sorts funs op nm nu xs) true := by
    intro hk hl12 e
    induction e with
    | zero =>
      intro i hi fit hfl hfit
      refine Ev.step (f := fun k => (sequiturref10_Apply.f k fit op nm nu xs).bind fun r => (well_Term.f sorts funs vars r.1 r.2.1 r.2.2.1 r.2.2.2).bind fun q => if (withinR funs vars [] ⟨op, nm, nu, xs⟩).2.2 = 0 then (if q.2.2 = 6 then sequiturlaw13_WellPuts.j2 k (withinR funs vars [] ⟨op, nm, nu, xs⟩).1 q.1 q.2.1 q.2.2 true else sequiturlaw13_WellPuts.j2 k (withinR funs vars [] ⟨op, nm, nu, xs⟩).1 q.1 q.2.1 q.2.2 (q.2.2 == 2)) else sequiturlaw13_WellPuts.j2 k (withinR funs vars [] ⟨op, nm, nu, xs⟩).1 q.1 q.2.1 q.2.2 true) (fun k => ?_) ?_
      · simp only [sequiturlaw13_WellPuts.l0]
        rw [if_neg (by omega)]
      · refine Ev.bind (Ev.bind (apply_ev fit (by omega) (fun p hp => ⟨(hfit p hp).1, (hfit p hp).2.1⟩) _ ⟨op, nm, nu, xs⟩ (Nat.le_refl _) (by omega)) (Ev.now _)) ?_
        refine Ev.bind (a := withinR funs vars [] (apT fit ⟨op, nm, nu, xs⟩)) (Ev.congr (fun k => term_f sorts funs vars (apT fit ⟨op, nm, nu, xs⟩)) (Ev.now _)) ?_
        by_cases h0 : (withinR funs vars [] ⟨op, nm, nu, xs⟩).2.2 = 0
        · refine Ev.pos h0 ?_
          have hr : rightT (⟨op, nm, nu, xs⟩ : S29) = 0 := by
            unfold withinR at h0
            by_cases h : rightT (⟨op, nm, nu, xs⟩ : S29) = 0
            · exact h
            · rw [if_pos h] at h0
              exact absurd h0 h
          have hwi : withinR funs vars [] ⟨op, nm, nu, xs⟩ = wTerm funs vars [] ⟨op, nm, nu, xs⟩ [] := by
            unfold withinR
            rw [if_neg (by simpa using hr)]
          rw [hwi] at h0 ⊢
          obtain ⟨hok2, hw2⟩ := put_sort funs vars fit hfit _ ⟨op, nm, nu, xs⟩ (Nat.le_refl _) (rightT_ok hr).1 h0
          have hz := wTerm_ahd funs vars [] _ ⟨op, nm, nu, xs⟩ (Nat.le_refl _) []
          have hway : (wTerm funs vars [] ⟨op, nm, nu, xs⟩ []).2.1 = [] := by
            rw [hz]
            unfold ahd
            rw [if_pos h0]
          by_cases hd : 64 < depT (apT fit ⟨op, nm, nu, xs⟩)
          · refine Ev.pos (by unfold withinR rightT; rw [if_pos hd]; rfl) (hjt _ _ _ _)
          · by_cases hz2 : 4096 < (keysT (apT fit ⟨op, nm, nu, xs⟩)).length
            · have h2 : (withinR funs vars [] (apT fit ⟨op, nm, nu, xs⟩)).2.2 = 2 := by unfold withinR rightT; rw [if_neg hd, if_pos hz2]; rfl
              refine Ev.neg (by rw [h2]; decide) ?_
              rw [h2]
              exact hjt _ _ _ _
            · have h2 : withinR funs vars [] (apT fit ⟨op, nm, nu, xs⟩) = wTerm funs vars [] ⟨op, nm, nu, xs⟩ [] := by
                unfold withinR rightT
                rw [if_neg hd, if_neg hz2, firstE_zero _ hok2, if_neg (by simp), hw2]
              rw [h2, h0]
              refine Ev.neg (by decide) ?_
              refine Ev.step (f := fun k => (sequiturlaw13_goes.f k).bind fun t => some t) (fun k => ?_) (Ev.bind goes_ev (Ev.now _))
              simp only [sequiturlaw13_WellPuts.j2]
              rw [hway]
              rfl
        · exact Ev.neg h0 (hjt _ _ _ _)
    | succ e ih =>
      intro i hi fit hfl hfit
      have hlt : i < l.length := by omega
      obtain ⟨hpn, hpG⟩ := hl.2 _ (List.getElem_mem hlt)
      have hpl := lenT_G _ _ (Nat.le_refl _) hpG
      have hskip : Ev (fun k => sequiturlaw13_WellPuts.l0 k vars l (withinR funs vars [] ⟨op, nm, nu, xs⟩).1 (withinR funs vars [] ⟨op, nm, nu, xs⟩).2.2 fit ((i + 1 : Nat) : Int) sorts funs op nm nu xs) true := ih (i + 1) (by omega) fit (by omega) hfit
      refine Ev.step (f := fun k => (sequiturbase_Size.f k l[i].f1.f0 l[i].f1.f1 l[i].f1.f2 l[i].f1.f3 30).bind fun t => if t > 30 then ((sequiturlaw13_goes.f k).bind fun t => some t) else (well_Term.f sorts funs vars l[i].f1.f0 l[i].f1.f1 l[i].f1.f2 l[i].f1.f3).bind fun q => (sequiturref13_Sort.f k vars l[i].f0).bind fun z => if q.2.2 = 0 then (if z.2 = true then (if q.1.toList = z.1.toList then sequiturlaw13_WellPuts.l0 k vars l (withinR funs vars [] ⟨op, nm, nu, xs⟩).1 (withinR funs vars [] ⟨op, nm, nu, xs⟩).2.2 (fit ++ [l[i]]) ((i + 1 : Nat) : Int) sorts funs op nm nu xs else sequiturlaw13_WellPuts.l0 k vars l (withinR funs vars [] ⟨op, nm, nu, xs⟩).1 (withinR funs vars [] ⟨op, nm, nu, xs⟩).2.2 fit ((i + 1 : Nat) : Int) sorts funs op nm nu xs) else sequiturlaw13_WellPuts.l0 k vars l (withinR funs vars [] ⟨op, nm, nu, xs⟩).1 (withinR funs vars [] ⟨op, nm, nu, xs⟩).2.2 fit ((i + 1 : Nat) : Int) sorts funs op nm nu xs) else sequiturlaw13_WellPuts.l0 k vars l (withinR funs vars [] ⟨op, nm, nu, xs⟩).1 (withinR funs vars [] ⟨op, nm, nu, xs⟩).2.2 fit ((i + 1 : Nat) : Int) sorts funs op nm nu xs) (fun k => ?_) ?_
      · simp only [sequiturlaw13_WellPuts.l0]
        rw [if_pos (by omega), if_pos (by omega), pair_rd l i hlt, wrap_succ i (by omega)]
        rw [if_pos (show fit.length < 1954687338268 by omega), T_eta]
      · refine Ev.bind (size_ev _ _ (Nat.le_refl _) hpl 30 (by omega)) ?_
        by_cases h30 : ((min (keysT l[i].f1).length (30 + 1) : Nat) : Int) > 30
        · exact Ev.pos h30 (Ev.bind goes_ev (Ev.now _))
        · refine Ev.neg h30 ?_
          refine Ev.bind (a := withinR funs vars [] l[i].f1) (Ev.congr (fun k => term_f sorts funs vars l[i].f1) (Ev.now _)) (Ev.bind (rsort_ev l[i].f0 vars hv.1 vars.length 0 (by omega)) ?_)
          rw [List.drop_zero]
          by_cases h0 : (withinR funs vars [] l[i].f1).2.2 = 0
          · refine Ev.pos h0 ?_
            by_cases hz : (sortL vars l[i].f0).2 = true
            · refine Ev.pos hz ?_
              by_cases hy : (withinR funs vars [] l[i].f1).1.toList = (sortL vars l[i].f0).1.toList
              · refine Ev.pos hy (ih (i + 1) (by omega) _ (by simp; omega) ?_)
                intro p hp
                rcases List.mem_append.1 hp with hp | hp
                · exact hfit p hp
                · obtain rfl := List.mem_singleton.1 hp
                  have hr : rightT l[i].f1 = 0 := by
                    unfold withinR at h0
                    by_cases h : rightT l[i].f1 = 0
                    · exact h
                    · rw [if_pos h] at h0
                      exact absurd h0 h
                  have hwi : withinR funs vars [] l[i].f1 = wTerm funs vars [] l[i].f1 [] := by
                    unfold withinR
                    rw [if_neg (by simpa using hr)]
                  rw [hwi] at h0 hy
                  have hz2 := wTerm_ahd funs vars [] _ l[i].f1 (Nat.le_refl _) []
                  refine ⟨hpG, (rightT_ok hr).1, hz, ?_⟩
                  rw [← (ba_eq _ _).1 hy, hz2]
                  unfold ahd
                  rw [if_pos h0, h0]
              · exact Ev.neg hy hskip
            · exact Ev.neg hz hskip
          · exact Ev.neg h0 hskip
  have hj0 : ∀ b, (b = false → l.length ≤ 12) → (keysT (⟨op, nm, nu, xs⟩ : S29)).length ≤ 60 → Ev (fun k => sequiturlaw13_WellPuts.j0 k vars l b sorts funs op nm nu xs) true := by
    intro b hb hk
    cases b with
    | true => exact hj0t
    | false =>
      refine Ev.step (f := fun k => (well_Term.f sorts funs vars op nm nu xs).bind fun q => sequiturlaw13_WellPuts.l0 k vars l q.1 q.2.2 ([] : List S45) 0 sorts funs op nm nu xs) (fun k => ?_) (Ev.bind (a := withinR funs vars [] ⟨op, nm, nu, xs⟩) (Ev.now _) (loop hk (hb rfl) l.length 0 (by omega) [] (Nat.zero_le _) (fun p hp => by simp at hp)))
      simp only [sequiturlaw13_WellPuts.j0, Bool.false_eq_true, if_false]
  have hall : Ev (fun k => sequiturlaw13_WellPuts.f k sorts funs vars op nm nu xs l) true := by
    obtain ⟨b, hb2⟩ := few_ev sorts funs vars hf.1
    unfold sequiturlaw13_WellPuts.f
    refine Ev.bind hb2 ?_
    cases b with
    | false => exact Ev.neg (by decide) hj0t
    | true =>
      refine Ev.pos rfl (Ev.bind (size_ev _ _ (Nat.le_refl _) hT 60 (by omega)) ?_)
      by_cases h1 : ((min (keysT (⟨op, nm, nu, xs⟩ : S29)).length (60 + 1) : Nat) : Int) > 60
      · exact Ev.pos h1 hj0t
      · refine Ev.neg h1 (hj0 _ (fun h => ?_) (by omega))
        have := of_decide_eq_false h
        omega
  obtain ⟨K, hK⟩ := hall
  exact ⟨K, hK K (Nat.le_refl _)⟩
end Go.Proofs.YtjmbdejejlcklaaDoor.Pure
