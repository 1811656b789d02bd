-- Written by this session's own program over the kit's printer: externals and laid facts are by hand. Not trusted: Lean checks it.
import Derived.Test.YtkhagjopkghpkaaPrint0
import Derived.Test.YtkhagjopkghpkaaPrint2
import Derived.Test.YtkhagjopkghpkaaPrint3
import Derived.Test.YtkhagjopkghpkaaPrint5
namespace Go.Proofs.Ytkhagjopkghpkaa.Print
open Go.Proofs.Ytkhagjopkghpkaa.Aux Go.Proofs.Ytkhagjopkghpkaa.Spec
open Go.RowKit Go.Proofs.YtkhagjopkghpkaaW.PrintWords Go.Proofs.YtkhagjopkghpkaaW.PrintLast Go.Proofs.YtkhagjopkghpkaaW.PrintMore
attribute [local go_sem] max2_int min2_int max_two min_two max_three min_three max_four min_four   -- for this text's walks alone
set_option linter.unusedVariables false
set_option linter.unusedSimpArgs false

/-! ### sequiturlaw04_FaultPlaces: function 4 -/
def sequiturlaw04_FaultPlaces.f (k : Nat) (a0 : ByteArray) (a1 : Int) : Option (Bool) := if (a0.size : Int) > 2000 then ((sequiturlaw04_goes.f).bind fun t138 => (some t138)) else ((fault_Where.f a0 a1).bind fun bt139 => ((sequiturref04_Where.f k a0 a1).bind fun bt141 => (if bt139.1 = bt141.1 then (if bt139.2 = bt141.2 then ((fault_Mark.f a0 a1).bind fun t143 => ((sequiturref04_Mark.f k a0 a1).bind fun t144 => (if t143.toList = t144.toList then ((sequiturlaw04_goes.f).bind fun t145 => (some t145)) else (none)))) else (none)) else (none))))
theorem sequiturlaw04_FaultPlaces.mono : ∀ a0 a1 k, LeO (sequiturlaw04_FaultPlaces.f k a0 a1) (sequiturlaw04_FaultPlaces.f (k + 1) a0 a1) := by
  intro a0 a1 k
  unfold sequiturlaw04_FaultPlaces.f
  repeat' first
      | (with_reducible exact sequiturref04_Mark.mono _ _ _)
      | (with_reducible exact sequiturref04_Where.mono _ _ _)
      | (with_reducible exact LeO.refl _)
      | (with_reducible exact LeO.none _)
      | (with_reducible refine LeO.ite ?_ ?_)
      | (with_reducible refine LeO.bind ?_ (fun _ => ?_))
      | exact sequiturref04_Mark.mono _ _ _
      | exact sequiturref04_Where.mono _ _ _
      | exact LeO.none _
      | refine LeO.ite ?_ ?_
      | refine LeO.bind ?_ (fun _ => ?_)
set_option maxHeartbeats 8000000 in
set_option maxRecDepth 100000 in
theorem sequiturlaw04_FaultPlaces.calls (k : Nat) (a0 : ByteArray) (a1 : Int) (r : Bool) (w : World) (h : sequiturlaw04_FaultPlaces.f k a0 a1 = some r) :
    Calls Try.prog 4 #[.string a0, .int .i64 a1] w fun e w' => e = .returned (.bool r) ∧ Below w.heap.size w w' := by
  have HB := Aside0.mk (Below.refl w.heap.size w)
  have H : (if (a0.size : Int) > 2000 then ((sequiturlaw04_goes.f).bind fun t138 => (some t138)) else ((fault_Where.f a0 a1).bind fun bt139 => ((sequiturref04_Where.f k a0 a1).bind fun bt141 => (if bt139.1 = bt141.1 then (if bt139.2 = bt141.2 then ((fault_Mark.f a0 a1).bind fun t143 => ((sequiturref04_Mark.f k a0 a1).bind fun t144 => (if t143.toList = t144.toList then ((sequiturlaw04_goes.f).bind fun t145 => (some t145)) else (none)))) else (none)) else (none))))) = some r := h
  clear h
  by_cases c3 : (a0.size : Int) > 2000
  · rw [if_pos c3] at H
    have c3b0 : decide (2000 < (a0.size : Int)) = true := decide_eq_true c3
    have c3b1 : decide (2000 < a0.size) = true := decide_eq_true (by omega)
    clear c3
    replace H := Option.bind_eq_some_iff.mp H
    obtain ⟨t138, A40, H⟩ := H
    replace H : (some t138) = some r := H
    have A4 := Aside0.mk A40
    clear A40
    obtain rfl := Option.some.inj H
    go_enter Try.func4, Try.ntmps4
    go_wp2_with (first | ((with_reducible refine gate_callee (f := 5) rfl ?_); refine goesL_ (some 12) rfl rfl Try.func5 (by kernel_rfl) rfl #[] rfl (by (try simp only [List.map_toArray, List.map_cons, List.map_nil]); first | done | rfl | (simp only [List.length_drop, List.length_take]; rfl)) ?_; (with_reducible refine (sequiturlaw04_goes.calls  t138 _ A4.out).mono ?_); (try clear A4); rintro e w5 ⟨rfl, hb⟩; refine ⟨_, rfl, ?_⟩; have n0_ := Aside0.mk (below_step (by repeat (first | (with_reducible first | exact HB.out | apply below_alloc | apply pw_below_drewN | apply below_drew1) | exact HB.out)) hb); clear HB; have HB := n0_; clear n0_; (try clear hb); (try clear hb2); (try clear hk); (try clear hi)))
    go_ret
    exact ⟨by first | rfl | (simp [errW_none, errW_some] <;> rfl) | (simp [*, errW_none, errW_some] <;> rfl), by repeat (first | (with_reducible first | exact HB.out | apply below_alloc | apply pw_below_drewN | apply below_drew1) | exact HB.out)⟩
  · rw [if_neg c3] at H
    have c3b0 : decide (2000 < (a0.size : Int)) = false := decide_eq_false c3
    have c3b1 : decide (2000 < a0.size) = false := decide_eq_false (by omega)
    clear c3
    replace H := Option.bind_eq_some_iff.mp H
    obtain ⟨⟨t139, t140⟩, A60, H⟩ := H
    replace H : ((sequiturref04_Where.f k a0 a1).bind fun bt141 => (if t139 = bt141.1 then (if t140 = bt141.2 then ((fault_Mark.f a0 a1).bind fun t143 => ((sequiturref04_Mark.f k a0 a1).bind fun t144 => (if t143.toList = t144.toList then ((sequiturlaw04_goes.f).bind fun t145 => (some t145)) else (none)))) else (none)) else (none))) = some r := H
    have A6 := Aside0.mk A60
    clear A60
    replace H := Option.bind_eq_some_iff.mp H
    obtain ⟨⟨t141, t142⟩, A70, H⟩ := H
    replace H : (if t139 = t141 then (if t140 = t142 then ((fault_Mark.f a0 a1).bind fun t143 => ((sequiturref04_Mark.f k a0 a1).bind fun t144 => (if t143.toList = t144.toList then ((sequiturlaw04_goes.f).bind fun t145 => (some t145)) else (none)))) else (none)) else (none)) = some r := H
    have A7 := Aside0.mk A70
    clear A70
    by_cases c8 : t139 = t141
    · rw [if_pos c8] at H
      have c8b0 : (t139 == t141) = true := beq_iff_eq.mpr c8
      have c8b1 : (t139 != t141) = false := bne_eq_false_iff_eq.mpr c8
      clear c8
      by_cases c9 : t140 = t142
      · rw [if_pos c9] at H
        have c9b0 : (t140 == t142) = true := beq_iff_eq.mpr c9
        have c9b1 : (t140 != t142) = false := bne_eq_false_iff_eq.mpr c9
        clear c9
        replace H := Option.bind_eq_some_iff.mp H
        obtain ⟨t143, A100, H⟩ := H
        replace H : ((sequiturref04_Mark.f k a0 a1).bind fun t144 => (if t143.toList = t144.toList then ((sequiturlaw04_goes.f).bind fun t145 => (some t145)) else (none))) = some r := H
        have A10 := Aside0.mk A100
        clear A100
        replace H := Option.bind_eq_some_iff.mp H
        obtain ⟨t144, A110, H⟩ := H
        replace H : (if t143.toList = t144.toList then ((sequiturlaw04_goes.f).bind fun t145 => (some t145)) else (none)) = some r := H
        have A11 := Aside0.mk A110
        clear A110
        by_cases c12 : t143.toList = t144.toList
        · rw [if_pos c12] at H
          have c12b0 : (t143.toList == t144.toList) = true := beq_iff_eq.mpr c12
          have c12b1 : (t143.toList != t144.toList) = false := bne_eq_false_iff_eq.mpr c12
          clear c12
          replace H := Option.bind_eq_some_iff.mp H
          obtain ⟨t145, A130, H⟩ := H
          replace H : (some t145) = some r := H
          have A13 := Aside0.mk A130
          clear A130
          obtain rfl := Option.some.inj H
          go_enter Try.func4, Try.ntmps4
          go_wp2_with (first | ((with_reducible refine gate_callee (f := 7) rfl ?_); refine goesL_ (some 16) rfl rfl Try.func7 (by kernel_rfl) rfl #[.string a0, .int .i64 a1] rfl (by (try simp only [List.map_toArray, List.map_cons, List.map_nil]); first | done | rfl | (simp only [List.length_drop, List.length_take]; rfl)) ?_; (with_reducible refine (fault_Where.calls a0 a1 t139 t140 _ A6.out).mono ?_); (try clear A6); rintro e w14 ⟨rfl, hb⟩; refine ⟨_, rfl, ?_⟩; have n0_ := Aside0.mk (below_step (by repeat (first | (with_reducible first | exact HB.out | apply below_alloc | apply pw_below_drewN | apply below_drew1) | exact HB.out)) hb); clear HB; have HB := n0_; clear n0_; (try clear hb); (try clear hb2); (try clear hk); (try clear hi)) | ((with_reducible refine gate_callee (f := 8) rfl ?_); refine goesL_ (some 22) rfl rfl Try.func8 (by kernel_rfl) rfl #[.string a0, .int .i64 a1] rfl (by (try simp only [List.map_toArray, List.map_cons, List.map_nil]); first | done | rfl | (simp only [List.length_drop, List.length_take]; rfl)) ?_; (with_reducible refine (sequiturref04_Where.calls k a0 a1 t141 t142 _ A7.out).mono ?_); (try clear A7); rintro e w' ⟨rfl, ⟨nd, rfl⟩⟩; refine ⟨_, rfl, ?_⟩) | (go_at_call 9; (with_reducible refine (fault_Mark.calls a0 a1 t143 _ A10.out).mono ?_); (try clear A10); rintro e w15 ⟨rfl, hb⟩; have n0_ := Aside0.mk (below_step (by repeat (first | (with_reducible first | exact HB.out | apply below_alloc | apply pw_below_drewN | apply below_drew1) | exact HB.out)) hb); clear HB; have HB := n0_; clear n0_; (try clear hb); (try clear hb2); (try clear hk); (try clear hi)) | (go_at_call 10; (with_reducible refine (sequiturref04_Mark.calls k a0 a1 t144 _ A11.out).mono ?_); (try clear A11); rintro e w' ⟨rfl, ⟨nd, rfl⟩⟩) | (go_at_call 5; (with_reducible refine (sequiturlaw04_goes.calls  t145 _ A13.out).mono ?_); (try clear A13); rintro e w16 ⟨rfl, hb⟩; have n0_ := Aside0.mk (below_step (by repeat (first | (with_reducible first | exact HB.out | apply below_alloc | apply pw_below_drewN | apply below_drew1) | exact HB.out)) hb); clear HB; have HB := n0_; clear n0_; (try clear hb); (try clear hb2); (try clear hk); (try clear hi)))
          go_ret
          exact ⟨by first | rfl | (simp [errW_none, errW_some] <;> rfl) | (simp [*, errW_none, errW_some] <;> rfl), by repeat (first | (with_reducible first | exact HB.out | apply below_alloc | apply pw_below_drewN | apply below_drew1) | exact HB.out)⟩
        · rw [if_neg c12] at H
          exact absurd H (by simp)
      · rw [if_neg c9] at H
        exact absurd H (by simp)
    · rw [if_neg c8] at H
      exact absurd H (by simp)

/-- THE ONE PURE STATEMENT of sequiturlaw04_FaultPlaces. -/
def sequiturlaw04_FaultPlaces.Pure : Prop := ∀ (a0 : ByteArray) (a1 : Int), a0.size ≤ maxLen → (Lit.int .i64 a1).wf = true → ∃ k, sequiturlaw04_FaultPlaces.f k a0 a1 = some true
theorem sequiturlaw04_FaultPlaces.walk (P : sequiturlaw04_FaultPlaces.Pure) (a0 : ByteArray) (a1 : Int) (w : World)   (hg0 : a0.size ≤ maxLen) (hg1 : (Lit.int .i64 a1).wf = true) :
    Calls Try.prog 4 #[.string a0, .int .i64 a1] w fun e w' => e = .returned (.bool true) ∧ Below w.heap.size w w' := by
  obtain ⟨k, h⟩ := P a0 a1 hg0 hg1
  refine (sequiturlaw04_FaultPlaces.calls k a0 a1 true w  h).mono ?_
  rintro e w' ⟨rfl, hd⟩
  exact ⟨rfl, hd⟩

end Go.Proofs.Ytkhagjopkghpkaa.Print
