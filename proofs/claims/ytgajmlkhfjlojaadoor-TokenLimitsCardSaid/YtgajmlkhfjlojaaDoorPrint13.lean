-- Written by this session's own program over the kit's printer: externals and laid facts are by hand. Not trusted: Lean checks it.
import Derived.Test.YtgajmlkhfjlojaaDoorPrint0
import Derived.Test.YtgajmlkhfjlojaaDoorPrint3
import Derived.Test.YtgajmlkhfjlojaaDoorPrint4
namespace Go.Proofs.YtgajmlkhfjlojaaDoor.Print
open Go.Proofs.YtgajmlkhfjlojaaDoor.Aux Go.Proofs.YtgajmlkhfjlojaaDoor.Spec
open Go.RowKit Go.Proofs.YtgajmlkhfjlojaaDoorW.PrintWords Go.Proofs.YtgajmlkhfjlojaaDoorW.PrintLast Go.Proofs.YtgajmlkhfjlojaaDoorW.PrintMore
attribute [local go_sem] max2_int min2_int max_two min_two max_three min_three max_four min_four   -- for this text's walks alone
set_option linter.unusedVariables false
set_option linter.unusedSimpArgs false

/-! ### sequiturlaw03_TokenLimits: function 7 -/
mutual
def sequiturlaw03_TokenLimits.l0 : Nat → Int → Int → ByteArray → Option (Bool)
  | 0, _, _, _ => none
  | k + 1, x1, x5, x6 => if (x6.size : Int) < x5 then (if x6.size + 1 ≤ 9223372036854775807 then (sequiturlaw03_TokenLimits.l0 k x1 x5 (x6 ++ (⟨#[120]⟩ : ByteArray))) else (none)) else (if 2 + x6.size ≤ 9223372036854775807 then ((token_Of.f k ((⟨#[40, 32]⟩ : ByteArray) ++ x6)).bind fun bt226 => (if x5 > 32 then (if (bt226.1.length : Int) = 0 then (if bt226.2.1 = 2 then (if bt226.2.2 = 2 then (if x5 ≤ 32 then (if (bt226.1.length : Int) = 2 then (if bt226.2.1 = 0 then (sequiturlaw03_TokenLimits.j1 k x1 (bt226.2.2 != 0)) else (sequiturlaw03_TokenLimits.j1 k x1 true)) else (sequiturlaw03_TokenLimits.j1 k x1 true)) else (sequiturlaw03_TokenLimits.j1 k x1 false)) else (sequiturlaw03_TokenLimits.j1 k x1 true)) else (sequiturlaw03_TokenLimits.j1 k x1 true)) else (sequiturlaw03_TokenLimits.j1 k x1 true)) else (if x5 ≤ 32 then (if (bt226.1.length : Int) = 2 then (if bt226.2.1 = 0 then (sequiturlaw03_TokenLimits.j1 k x1 (bt226.2.2 != 0)) else (sequiturlaw03_TokenLimits.j1 k x1 true)) else (sequiturlaw03_TokenLimits.j1 k x1 true)) else (sequiturlaw03_TokenLimits.j1 k x1 false)))) else (none))
def sequiturlaw03_TokenLimits.j1 : Nat → Int → Bool → Option (Bool)
  | 0, _, _ => none
  | k + 1, x1, x65 => if x65 = true then (none) else (if 0 ≤ (Int.tmod x1 131072) then (if (Int.tmod x1 131072) ≤ (Int.tmod x1 131072) then (if ((Int.tmod x1 131072) : Int).toNat ≤ 281474976710656 then ((some (List.replicate (Int.tmod x1 131072 : Int).toNat 0 : List Int)).bind fun y231 => (sequiturlaw03_TokenLimits.l1 k y231 (y231.length : Int) 0)) else (none)) else (none)) else (none))
def sequiturlaw03_TokenLimits.l1 : Nat → List Int → Int → Int → Option (Bool)
  | 0, _, _, _ => none
  | k + 1, x10, x70, x71 => if x71 < x70 then (if 0 ≤ x71 then (if x71 < (x10.length : Int) then (sequiturlaw03_TokenLimits.l1 k (x10.set (x71 : Int).toNat 32) x70 (wrap64 (x71 + 1))) else (none)) else (none)) else (if (strOfNums x10).size + 1 ≤ 9223372036854775807 then ((token_Of.f k ((strOfNums x10) ++ (⟨#[121]⟩ : ByteArray))).bind fun bt235 => (if (x10.length : Int) ≥ 65536 then (if (bt235.1.length : Int) = 0 then (if bt235.2.1 = 0 then (some (bt235.2.2 == 2)) else (none)) else (none)) else (if (bt235.1.length : Int) = 1 then (if 0 < (bt235.1.length : Int) then (if ((rd_T30 bt235.1 0).f2) = (x10.length : Int) then (some (bt235.2.2 == 0)) else (none)) else (none)) else (none)))) else (none))
end
def sequiturlaw03_TokenLimits.f (k : Nat) (a0 : Int) (a1 : Int) : Option (Bool) := (sequiturlaw03_alive.f k).bind fun t225 => (if t225 = true then (sequiturlaw03_TokenLimits.l0 k a1 (wrap64 (1 + (wrap64 (Int.tmod a0 99)))) (⟨#[]⟩ : ByteArray)) else (none))
theorem sequiturlaw03_TokenLimits.mono_l : ∀ k, (∀ y0 y1 y2, LeO (sequiturlaw03_TokenLimits.l0 k y0 y1 y2) (sequiturlaw03_TokenLimits.l0 (k + 1) y0 y1 y2)) ∧ (∀ y0 y1, LeO (sequiturlaw03_TokenLimits.j1 k y0 y1) (sequiturlaw03_TokenLimits.j1 (k + 1) y0 y1)) ∧ (∀ y0 y1 y2, LeO (sequiturlaw03_TokenLimits.l1 k y0 y1 y2) (sequiturlaw03_TokenLimits.l1 (k + 1) y0 y1 y2))
  | 0 => ⟨fun _ _ _ r h => by simp [sequiturlaw03_TokenLimits.l0] at h, fun _ _ r h => by simp [sequiturlaw03_TokenLimits.j1] at h, fun _ _ _ r h => by simp [sequiturlaw03_TokenLimits.l1] at h⟩
  | k + 1 => by
    obtain ⟨ih0, ih1, ih2⟩ := sequiturlaw03_TokenLimits.mono_l k
    refine ⟨?_, ?_, ?_⟩
    · intro y0 y1 y2
      unfold sequiturlaw03_TokenLimits.l0
      repeat' first
      | (with_reducible exact ih0 _ _ _)
      | (with_reducible exact ih1 _ _)
      | (with_reducible exact ih2 _ _ _)
      | (with_reducible exact sequiturlaw03_alive.mono _)
      | (with_reducible exact token_Of.mono _ _)
      | (with_reducible exact LeO.refl _)
      | (with_reducible exact LeO.none _)
      | (with_reducible refine LeO.ite ?_ ?_)
      | (with_reducible refine LeO.bind ?_ (fun _ => ?_))
      | exact ih0 _ _ _
      | exact ih1 _ _
      | exact ih2 _ _ _
      | exact sequiturlaw03_alive.mono _
      | exact token_Of.mono _ _
      | exact LeO.none _
      | refine LeO.ite ?_ ?_
      | refine LeO.bind ?_ (fun _ => ?_)
    · intro y0 y1
      unfold sequiturlaw03_TokenLimits.j1
      repeat' first
      | (with_reducible exact ih0 _ _ _)
      | (with_reducible exact ih1 _ _)
      | (with_reducible exact ih2 _ _ _)
      | (with_reducible exact sequiturlaw03_alive.mono _)
      | (with_reducible exact token_Of.mono _ _)
      | (with_reducible exact LeO.refl _)
      | (with_reducible exact LeO.none _)
      | (with_reducible refine LeO.ite ?_ ?_)
      | (with_reducible refine LeO.bind ?_ (fun _ => ?_))
      | exact ih0 _ _ _
      | exact ih1 _ _
      | exact ih2 _ _ _
      | exact sequiturlaw03_alive.mono _
      | exact token_Of.mono _ _
      | exact LeO.none _
      | refine LeO.ite ?_ ?_
      | refine LeO.bind ?_ (fun _ => ?_)
    · intro y0 y1 y2
      unfold sequiturlaw03_TokenLimits.l1
      repeat' first
      | (with_reducible exact ih0 _ _ _)
      | (with_reducible exact ih1 _ _)
      | (with_reducible exact ih2 _ _ _)
      | (with_reducible exact sequiturlaw03_alive.mono _)
      | (with_reducible exact token_Of.mono _ _)
      | (with_reducible exact LeO.refl _)
      | (with_reducible exact LeO.none _)
      | (with_reducible refine LeO.ite ?_ ?_)
      | (with_reducible refine LeO.bind ?_ (fun _ => ?_))
      | exact ih0 _ _ _
      | exact ih1 _ _
      | exact ih2 _ _ _
      | exact sequiturlaw03_alive.mono _
      | exact token_Of.mono _ _
      | exact LeO.none _
      | refine LeO.ite ?_ ?_
      | refine LeO.bind ?_ (fun _ => ?_)
theorem sequiturlaw03_TokenLimits.mono : ∀ a0 a1 k, LeO (sequiturlaw03_TokenLimits.f k a0 a1) (sequiturlaw03_TokenLimits.f (k + 1) a0 a1) := by
  intro a0 a1 k
  obtain ⟨ih0, ih1, ih2⟩ := sequiturlaw03_TokenLimits.mono_l k
  unfold sequiturlaw03_TokenLimits.f
  repeat' first
      | (with_reducible exact ih0 _ _ _)
      | (with_reducible exact ih1 _ _)
      | (with_reducible exact ih2 _ _ _)
      | (with_reducible exact sequiturlaw03_alive.mono _)
      | (with_reducible exact token_Of.mono _ _)
      | (with_reducible exact LeO.refl _)
      | (with_reducible exact LeO.none _)
      | (with_reducible refine LeO.ite ?_ ?_)
      | (with_reducible refine LeO.bind ?_ (fun _ => ?_))
      | exact ih0 _ _ _
      | exact ih1 _ _
      | exact ih2 _ _ _
      | exact sequiturlaw03_alive.mono _
      | exact token_Of.mono _ _
      | exact LeO.none _
      | refine LeO.ite ?_ ?_
      | refine LeO.bind ?_ (fun _ => ?_)
set_option maxHeartbeats 8000000 in
set_option maxRecDepth 100000 in
theorem sequiturlaw03_TokenLimits.calls (k : Nat) (a0 : Int) (a1 : Int) (r : Bool) (w : World) (hLa : LaidW w) (h : sequiturlaw03_TokenLimits.f k a0 a1 = some r) :
    Calls Tryd.prog 7 #[.int .u8 a0, .int .u32 a1] w fun e w' => e = .returned (.bool r) ∧ Below w.heap.size w w' := by
  have HB := Aside0.mk (Below.refl w.heap.size w)
  have HLA := Aside0.mk hLa
  clear hLa
  have H : ((sequiturlaw03_alive.f k).bind fun t225 => (if t225 = true then (sequiturlaw03_TokenLimits.l0 k a1 (wrap64 (1 + (wrap64 (Int.tmod a0 99)))) (⟨#[]⟩ : ByteArray)) else (none))) = some r := h
  clear h
  replace H := Option.bind_eq_some_iff.mp H
  obtain ⟨t225, A30, H⟩ := H
  replace H : (if t225 = true then (sequiturlaw03_TokenLimits.l0 k a1 (wrap64 (1 + (wrap64 (Int.tmod a0 99)))) (⟨#[]⟩ : ByteArray)) else (none)) = some r := H
  have A3 := Aside0.mk A30
  clear A30
  by_cases c4 : t225 = true
  · subst c4
    have H1 : (sequiturlaw03_TokenLimits.l0 k a1 (wrap64 (1 + (wrap64 (Int.tmod a0 99)))) (⟨#[]⟩ : ByteArray)) = some r := by rw [if_pos rfl] at H; exact H
    clear H
    have H := H1
    clear H1
    have H' := Aside0.mk H
    clear H
    go_enter Tryd.func7, Tryd.ntmps7
    go_wp2_with (first | ((with_reducible refine gate_callee (f := 9) rfl ?_); refine goesL_ (some 15) rfl rfl Tryd.func9 (by kernel_rfl) rfl #[] rfl (by (try simp only [List.map_toArray, List.map_cons, List.map_nil]); first | done | rfl | (simp only [List.length_drop, List.length_take]; rfl)) ?_; (with_reducible refine (sequiturlaw03_alive.calls k  true _ ?side1 A3.out).mono ?_); (case side1 => exact LaidW.below HLA.out (by repeat (first | (with_reducible first | exact HB.out | apply below_alloc | apply pw_below_drewN | apply below_drew1) | exact HB.out))); (try clear A3); rintro e w5 ⟨rfl, hb⟩; refine ⟨_, rfl, ?_⟩; have n0_ := Aside0.mk (below_step (by repeat (first | (with_reducible first | exact HB.out | apply below_alloc | apply pw_below_drewN | apply below_drew1) | exact HB.out)) hb); clear HB; have HB := n0_; clear n0_; (try clear hb); (try clear hb2); (try clear hk); (try clear hi)))
    go_loopg [6] k (fun kq v6 w' => ∃ (x6_1 : ByteArray), v6 = .string x6_1 ∧ Aside0 (sequiturlaw03_TokenLimits.l0 kq a1 (wrap64 (1 + (wrap64 (Int.tmod a0 99)))) x6_1 = some r) ∧ Aside0 (kq ≤ k) ∧ Aside0 (Below w.heap.size w w'))
    case atStart => exact ⟨((⟨#[]⟩ : ByteArray)), (by first | rfl | (simp; done) | (simp [*]; done)), H', ⟨Nat.le_refl _⟩, ⟨by repeat (first | (with_reducible first | exact HB.out | apply below_alloc | apply pw_below_drewN | apply below_drew1) | exact HB.out)⟩⟩
    case round =>
      clear H'
      try clear p2
      try clear c4
      obtain ⟨x6_1, rfl, HA, HK1, HB⟩ := hrel
      cases gk with
      | zero => exact absurd HA.out (by simp [sequiturlaw03_TokenLimits.l0])
      | succ k1 =>
        have H := HA.out
        clear HA
        simp only [sequiturlaw03_TokenLimits.l0] at H
        by_cases c6 : (x6_1.size : Int) < (wrap64 (1 + (wrap64 (Int.tmod a0 99))))
        · rw [if_pos c6] at H
          have c6b0 : decide ((x6_1.size : Int) < (wrap64 (1 + (wrap64 (Int.tmod a0 99))))) = true := decide_eq_true c6
          clear c6
          by_cases c7 : x6_1.size + 1 ≤ 9223372036854775807
          · rw [if_pos c7] at H
            have c7b0 := eq_true c7
            have c7b1 : decide (x6_1.size + 1 ≤ 9223372036854775807) = true := decide_eq_true c7
            try have c7b2 : (9223372036854775807 < x6_1.size + 1) = False := eq_false (Nat.not_lt.2 c7)
            have H' := Aside0.mk H
            clear H
            go_wp2
            go_roundg k1
            case measure => have := HK1.out; omega
            case rel => exact ⟨(x6_1 ++ (⟨#[120]⟩ : ByteArray)), (by first | rfl | (simp; done) | (simp [*]; done)), H', ⟨by have := HK1.out; omega⟩, ⟨by repeat (first | (with_reducible first | exact HB.out | apply below_alloc | apply pw_below_drewN | apply below_drew1) | exact HB.out)⟩⟩
          · rw [if_neg c7] at H
            exact absurd H (by simp)
        · rw [if_neg c6] at H
          have c6b0 : decide ((x6_1.size : Int) < (wrap64 (1 + (wrap64 (Int.tmod a0 99))))) = false := decide_eq_false c6
          clear c6
          by_cases c8 : 2 + x6_1.size ≤ 9223372036854775807
          · rw [if_pos c8] at H
            have c8b0 := eq_true c8
            have c8b1 : decide (2 + x6_1.size ≤ 9223372036854775807) = true := decide_eq_true c8
            try have c8b2 : (9223372036854775807 < 2 + x6_1.size) = False := eq_false (Nat.not_lt.2 c8)
            replace H := Option.bind_eq_some_iff.mp H
            obtain ⟨⟨t226, t227, t228⟩, A90, H⟩ := H
            replace H : (if (wrap64 (1 + (wrap64 (Int.tmod a0 99)))) > 32 then (if (t226.length : Int) = 0 then (if t227 = 2 then (if t228 = 2 then (if (wrap64 (1 + (wrap64 (Int.tmod a0 99)))) ≤ 32 then (if (t226.length : Int) = 2 then (if t227 = 0 then (sequiturlaw03_TokenLimits.j1 k1 a1 (t228 != 0)) else (sequiturlaw03_TokenLimits.j1 k1 a1 true)) else (sequiturlaw03_TokenLimits.j1 k1 a1 true)) else (sequiturlaw03_TokenLimits.j1 k1 a1 false)) else (sequiturlaw03_TokenLimits.j1 k1 a1 true)) else (sequiturlaw03_TokenLimits.j1 k1 a1 true)) else (sequiturlaw03_TokenLimits.j1 k1 a1 true)) else (if (wrap64 (1 + (wrap64 (Int.tmod a0 99)))) ≤ 32 then (if (t226.length : Int) = 2 then (if t227 = 0 then (sequiturlaw03_TokenLimits.j1 k1 a1 (t228 != 0)) else (sequiturlaw03_TokenLimits.j1 k1 a1 true)) else (sequiturlaw03_TokenLimits.j1 k1 a1 true)) else (sequiturlaw03_TokenLimits.j1 k1 a1 false))) = some r := H
            have A9 := Aside0.mk A90
            clear A90
            have HC10 := Aside0.mk H
            clear H
            go_upto_region 8 with (first | ((with_reducible refine gate_callee (f := 10) rfl ?_); refine goesL_ (some 30) rfl rfl Tryd.func10 (by kernel_rfl) rfl #[.string ((⟨#[40, 32]⟩ : ByteArray) ++ x6_1)] rfl (by (try simp only [List.map_toArray, List.map_cons, List.map_nil]); first | done | rfl | (simp only [List.length_drop, List.length_take]; rfl)) ?_; (with_reducible refine (token_Of.calls k1 ((⟨#[40, 32]⟩ : ByteArray) ++ x6_1) t226 t227 t228 _ ?side1 A9.out).mono ?_); (case side1 => exact LaidW.below HLA.out (by repeat (first | (with_reducible first | exact HB.out | apply below_alloc | apply pw_below_drewN | apply below_drew1) | exact HB.out))); (try clear A9); rintro e w11 ⟨v229, rfl, ho0, hb⟩; refine ⟨_, rfl, ?_⟩; have n0_ := Aside0.mk (Kd.R_lower ho0 (below_size (by repeat (first | (with_reducible first | exact HB.out | apply below_alloc | apply pw_below_drewN | apply below_drew1) | exact HB.out)))); have n1_ := Aside0.mk (below_step (by repeat (first | (with_reducible first | exact HB.out | apply below_alloc | apply pw_below_drewN | apply below_drew1) | exact HB.out)) hb); clear HB; have HO230 := n0_; have HB := n1_; clear n0_ n1_; (try clear hb); (try clear hb2); (try clear hk); (try clear hi); (try clear ho0)))
            (try simp only [Act.put, List.setIfInBounds_toArray, List.set_cons_zero, List.set_cons_succ])
            go_cut [65] (fun v65 wc => ∃ (kq : Nat) (x65_9 : Bool), v65 = .bool x65_9 ∧ Aside0 (sequiturlaw03_TokenLimits.j1 kq a1 x65_9 = some r) ∧ Aside0 (kq ≤ k1) ∧ Aside0 (Below w.heap.size w wc))
            case first =>
              have H := HC10.out
              clear HC10
              by_cases c12 : (wrap64 (1 + (wrap64 (Int.tmod a0 99)))) > 32
              · rw [if_pos c12] at H
                have c12b0 : decide (32 < (wrap64 (1 + (wrap64 (Int.tmod a0 99))))) = true := decide_eq_true c12
                clear c12
                (first | rw [c12b0] | (simp only [i64_w, i32_w]; rw [c12b0]) | skip)
                by_cases c13 : (t226.length : Int) = 0
                · rw [if_pos c13] at H
                  have c13b0 : ((t226.length : Int) == 0) = true := beq_iff_eq.mpr c13
                  have c13b1 : ((t226.length : Int) != 0) = false := bne_eq_false_iff_eq.mpr c13
                  clear c13
                  by_cases c14 : t227 = 2
                  · rw [if_pos c14] at H
                    have c14b0 : (t227 == 2) = true := beq_iff_eq.mpr c14
                    have c14b1 : (t227 != 2) = false := bne_eq_false_iff_eq.mpr c14
                    clear c14
                    by_cases c15 : t228 = 2
                    · rw [if_pos c15] at H
                      have c15b0 : (t228 == 2) = true := beq_iff_eq.mpr c15
                      have c15b1 : (t228 != 2) = false := bne_eq_false_iff_eq.mpr c15
                      clear c15
                      by_cases c16 : (wrap64 (1 + (wrap64 (Int.tmod a0 99)))) ≤ 32
                      · rw [if_pos c16] at H
                        have c16b0 : decide ((wrap64 (1 + (wrap64 (Int.tmod a0 99)))) ≤ 32) = true := decide_eq_true c16
                        clear c16
                        by_cases c17 : (t226.length : Int) = 2
                        · rw [if_pos c17] at H
                          have c17b0 : ((t226.length : Int) == 2) = true := beq_iff_eq.mpr c17
                          have c17b1 : ((t226.length : Int) != 2) = false := bne_eq_false_iff_eq.mpr c17
                          clear c17
                          by_cases c18 : t227 = 0
                          · rw [if_pos c18] at H
                            have c18b0 : (t227 == 0) = true := beq_iff_eq.mpr c18
                            have c18b1 : (t227 != 0) = false := bne_eq_false_iff_eq.mpr c18
                            clear c18
                            have H' := Aside0.mk H
                            clear H
                            obtain ⟨Ao19, co19, eo19⟩ := Kd.R_slice HO230.out
                            subst eo19
                            go_wp2
                            go_meet
                            case rel => exact ⟨_, ((t228 != 0)), (by first | rfl | (simp; done) | (simp [*]; done)), H', ⟨by have := HK1.out; first | omega | exact Nat.le_refl _⟩, ⟨by repeat (first | (with_reducible first | exact HB.out | apply below_alloc | apply pw_below_drewN | apply below_drew1) | exact HB.out)⟩⟩
                          · rw [if_neg c18] at H
                            have c18b0 : (t227 == 0) = false := beq_eq_false_iff_ne.mpr c18
                            have c18b1 : (t227 != 0) = true := bne_iff_ne.mpr c18
                            have H' := Aside0.mk H
                            clear H
                            obtain ⟨Ao20, co20, eo20⟩ := Kd.R_slice HO230.out
                            subst eo20
                            go_wp2
                            go_meet
                            case rel => exact ⟨_, (true), (by first | rfl | (simp; done) | (simp [*]; done)), H', ⟨by have := HK1.out; first | omega | exact Nat.le_refl _⟩, ⟨by repeat (first | (with_reducible first | exact HB.out | apply below_alloc | apply pw_below_drewN | apply below_drew1) | exact HB.out)⟩⟩
                        · rw [if_neg c17] at H
                          have c17b0 : ((t226.length : Int) == 2) = false := beq_eq_false_iff_ne.mpr c17
                          have c17b1 : ((t226.length : Int) != 2) = true := bne_iff_ne.mpr c17
                          have H' := Aside0.mk H
                          clear H
                          obtain ⟨Ao21, co21, eo21⟩ := Kd.R_slice HO230.out
                          subst eo21
                          go_wp2
                          go_meet
                          case rel => exact ⟨_, (true), (by first | rfl | (simp; done) | (simp [*]; done)), H', ⟨by have := HK1.out; first | omega | exact Nat.le_refl _⟩, ⟨by repeat (first | (with_reducible first | exact HB.out | apply below_alloc | apply pw_below_drewN | apply below_drew1) | exact HB.out)⟩⟩
                      · rw [if_neg c16] at H
                        have c16b0 : decide ((wrap64 (1 + (wrap64 (Int.tmod a0 99)))) ≤ 32) = false := decide_eq_false c16
                        clear c16
                        have H' := Aside0.mk H
                        clear H
                        obtain ⟨Ao22, co22, eo22⟩ := Kd.R_slice HO230.out
                        subst eo22
                        go_wp2
                        go_meet
                        case rel => exact ⟨_, (false), (by first | rfl | (simp; done) | (simp [*]; done)), H', ⟨by have := HK1.out; first | omega | exact Nat.le_refl _⟩, ⟨by repeat (first | (with_reducible first | exact HB.out | apply below_alloc | apply pw_below_drewN | apply below_drew1) | exact HB.out)⟩⟩
                    · rw [if_neg c15] at H
                      have c15b0 : (t228 == 2) = false := beq_eq_false_iff_ne.mpr c15
                      have c15b1 : (t228 != 2) = true := bne_iff_ne.mpr c15
                      have H' := Aside0.mk H
                      clear H
                      obtain ⟨Ao23, co23, eo23⟩ := Kd.R_slice HO230.out
                      subst eo23
                      go_wp2
                      go_meet
                      case rel => exact ⟨_, (true), (by first | rfl | (simp; done) | (simp [*]; done)), H', ⟨by have := HK1.out; first | omega | exact Nat.le_refl _⟩, ⟨by repeat (first | (with_reducible first | exact HB.out | apply below_alloc | apply pw_below_drewN | apply below_drew1) | exact HB.out)⟩⟩
                  · rw [if_neg c14] at H
                    have c14b0 : (t227 == 2) = false := beq_eq_false_iff_ne.mpr c14
                    have c14b1 : (t227 != 2) = true := bne_iff_ne.mpr c14
                    have H' := Aside0.mk H
                    clear H
                    obtain ⟨Ao24, co24, eo24⟩ := Kd.R_slice HO230.out
                    subst eo24
                    go_wp2
                    go_meet
                    case rel => exact ⟨_, (true), (by first | rfl | (simp; done) | (simp [*]; done)), H', ⟨by have := HK1.out; first | omega | exact Nat.le_refl _⟩, ⟨by repeat (first | (with_reducible first | exact HB.out | apply below_alloc | apply pw_below_drewN | apply below_drew1) | exact HB.out)⟩⟩
                · rw [if_neg c13] at H
                  have c13b0 : ((t226.length : Int) == 0) = false := beq_eq_false_iff_ne.mpr c13
                  have c13b1 : ((t226.length : Int) != 0) = true := bne_iff_ne.mpr c13
                  have c13b2 : ¬ (t226 = []) := fun h_ => c13 (by rw [h_]; rfl)
                  have H' := Aside0.mk H
                  clear H
                  obtain ⟨Ao25, co25, eo25⟩ := Kd.R_slice HO230.out
                  subst eo25
                  go_wp2
                  go_meet
                  case rel => exact ⟨_, (true), (by first | rfl | (simp; done) | (simp [*]; done)), H', ⟨by have := HK1.out; first | omega | exact Nat.le_refl _⟩, ⟨by repeat (first | (with_reducible first | exact HB.out | apply below_alloc | apply pw_below_drewN | apply below_drew1) | exact HB.out)⟩⟩
              · rw [if_neg c12] at H
                have c12b0 : decide (32 < (wrap64 (1 + (wrap64 (Int.tmod a0 99))))) = false := decide_eq_false c12
                clear c12
                (first | rw [c12b0] | (simp only [i64_w, i32_w]; rw [c12b0]) | skip)
                by_cases c26 : (wrap64 (1 + (wrap64 (Int.tmod a0 99)))) ≤ 32
                · rw [if_pos c26] at H
                  have c26b0 : decide ((wrap64 (1 + (wrap64 (Int.tmod a0 99)))) ≤ 32) = true := decide_eq_true c26
                  clear c26
                  by_cases c27 : (t226.length : Int) = 2
                  · rw [if_pos c27] at H
                    have c27b0 : ((t226.length : Int) == 2) = true := beq_iff_eq.mpr c27
                    have c27b1 : ((t226.length : Int) != 2) = false := bne_eq_false_iff_eq.mpr c27
                    clear c27
                    by_cases c28 : t227 = 0
                    · rw [if_pos c28] at H
                      have c28b0 : (t227 == 0) = true := beq_iff_eq.mpr c28
                      have c28b1 : (t227 != 0) = false := bne_eq_false_iff_eq.mpr c28
                      clear c28
                      have H' := Aside0.mk H
                      clear H
                      obtain ⟨Ao29, co29, eo29⟩ := Kd.R_slice HO230.out
                      subst eo29
                      go_wp2
                      go_meet
                      case rel => exact ⟨_, ((t228 != 0)), (by first | rfl | (simp; done) | (simp [*]; done)), H', ⟨by have := HK1.out; first | omega | exact Nat.le_refl _⟩, ⟨by repeat (first | (with_reducible first | exact HB.out | apply below_alloc | apply pw_below_drewN | apply below_drew1) | exact HB.out)⟩⟩
                    · rw [if_neg c28] at H
                      have c28b0 : (t227 == 0) = false := beq_eq_false_iff_ne.mpr c28
                      have c28b1 : (t227 != 0) = true := bne_iff_ne.mpr c28
                      have H' := Aside0.mk H
                      clear H
                      obtain ⟨Ao30, co30, eo30⟩ := Kd.R_slice HO230.out
                      subst eo30
                      go_wp2
                      go_meet
                      case rel => exact ⟨_, (true), (by first | rfl | (simp; done) | (simp [*]; done)), H', ⟨by have := HK1.out; first | omega | exact Nat.le_refl _⟩, ⟨by repeat (first | (with_reducible first | exact HB.out | apply below_alloc | apply pw_below_drewN | apply below_drew1) | exact HB.out)⟩⟩
                  · rw [if_neg c27] at H
                    have c27b0 : ((t226.length : Int) == 2) = false := beq_eq_false_iff_ne.mpr c27
                    have c27b1 : ((t226.length : Int) != 2) = true := bne_iff_ne.mpr c27
                    have H' := Aside0.mk H
                    clear H
                    obtain ⟨Ao31, co31, eo31⟩ := Kd.R_slice HO230.out
                    subst eo31
                    go_wp2
                    go_meet
                    case rel => exact ⟨_, (true), (by first | rfl | (simp; done) | (simp [*]; done)), H', ⟨by have := HK1.out; first | omega | exact Nat.le_refl _⟩, ⟨by repeat (first | (with_reducible first | exact HB.out | apply below_alloc | apply pw_below_drewN | apply below_drew1) | exact HB.out)⟩⟩
                · rw [if_neg c26] at H
                  have c26b0 : decide ((wrap64 (1 + (wrap64 (Int.tmod a0 99)))) ≤ 32) = false := decide_eq_false c26
                  clear c26
                  have H' := Aside0.mk H
                  clear H
                  go_wp2
                  go_meet
                  case rel => exact ⟨_, (false), (by first | rfl | (simp; done) | (simp [*]; done)), H', ⟨by have := HK1.out; first | omega | exact Nat.le_refl _⟩, ⟨by repeat (first | (with_reducible first | exact HB.out | apply below_alloc | apply pw_below_drewN | apply below_drew1) | exact HB.out)⟩⟩
            case rest =>
              clear HC10
              try clear c1
              try clear c2
              try clear p2
              try clear c4
              try clear c6
              try clear c6b0
              try clear p6
              try clear c7
              try clear c7b0
              try clear c7b1
              try clear c7b2
              try clear c8
              try clear c8b0
              try clear c8b1
              try clear c8b2
              try clear c9
              try clear c10
              try clear c12
              try clear c12b0
              try clear c13
              try clear c13b0
              try clear c13b1
              try clear c13b2
              try clear c14
              try clear c14b0
              try clear c14b1
              try clear c15
              try clear c15b0
              try clear c15b1
              try clear c16
              try clear c16b0
              try clear c17
              try clear c17b0
              try clear c17b1
              try clear c18
              try clear c18b0
              try clear c18b1
              try clear c26
              try clear c26b0
              try clear c27
              try clear c27b0
              try clear c27b1
              try clear c28
              try clear c28b0
              try clear c28b1
              try clear p2
              obtain ⟨kq, x65_9, rfl, HA, HJ9, HB⟩ := hcut
              cases kq with
              | zero => exact absurd HA.out (by simp [sequiturlaw03_TokenLimits.j1])
              | succ kj9 =>
                have H := HA.out
                clear HA
                simp only [sequiturlaw03_TokenLimits.j1] at H
                by_cases c32 : x65_9 = true
                · subst c32
                  have H1 : (none) = some r := by rw [if_pos rfl] at H; exact H
                  clear H
                  have H := H1
                  clear H1
                  exact absurd H (by simp)
                · replace c32 := Bool.eq_false_iff.mpr c32
                  subst c32
                  have H1 : (if 0 ≤ (Int.tmod a1 131072) then (if (Int.tmod a1 131072) ≤ (Int.tmod a1 131072) then (if ((Int.tmod a1 131072) : Int).toNat ≤ 281474976710656 then ((some (List.replicate (Int.tmod a1 131072 : Int).toNat 0 : List Int)).bind fun y231 => (sequiturlaw03_TokenLimits.l1 kj9 y231 (y231.length : Int) 0)) else (none)) else (none)) else (none)) = some r := by rw [if_neg (show ¬ (false = true) by decide)] at H; exact H
                  clear H
                  have H := H1
                  clear H1
                  obtain ⟨ji33, hji33⟩ : ∃ j_ : Int, (Int.tmod a1 131072) = j_ := ⟨_, rfl⟩
                  replace H : (if 0 ≤ (ji33) then (if (ji33) ≤ (ji33) then (if ((ji33) : Int).toNat ≤ 281474976710656 then ((some (List.replicate (ji33 : Int).toNat 0 : List Int)).bind fun y231 => (sequiturlaw03_TokenLimits.l1 kj9 y231 (y231.length : Int) 0)) else (none)) else (none)) else (none)) = some r := by first | (rw [hji33] at H; exact H) | (simp only [hji33] at H ⊢; exact H)
                  by_cases c34 : 0 ≤ (ji33)
                  · rw [if_pos c34] at H
                    have c34b0 := eq_true c34
                    have c34b1 : decide (0 ≤ (ji33)) = true := decide_eq_true c34
                    clear c34
                    by_cases c35 : (ji33) ≤ (ji33)
                    · rw [if_pos c35] at H
                      have c35b0 := eq_true c35
                      have c35b1 : decide ((ji33) ≤ (ji33)) = true := decide_eq_true c35
                      clear c35
                      by_cases c36 : ((ji33) : Int).toNat ≤ 281474976710656
                      · rw [if_pos c36] at H
                        have c36b0 := eq_true c36
                        have c36b1 : decide (((ji33) : Int).toNat ≤ 281474976710656) = true := decide_eq_true c36
                        clear c36
                        obtain ⟨y231, hy231⟩ : ∃ y_ : List Int, y_ = (List.replicate (ji33 : Int).toNat 0) := ⟨_, rfl⟩
                        replace H : (sequiturlaw03_TokenLimits.l1 kj9 y231 (y231.length : Int) 0) = some r := by first | (rw [hy231]; with_reducible exact H) | (have H2_ := (Option.bind_some _ _).symm.trans H; rw [hy231]; with_reducible exact H2_) | (have H2_ := (Option.bind_some _ _).symm.trans H; with_reducible exact H2_) | with_reducible exact H | (rw [hy231]; exact H) | exact H
                        have Ny231 := Aside0.mk hy231
                        clear hy231
                        have H' := Aside0.mk H
                        clear H
                        go_wp2_with (first | ((with_reducible refine gate_dst (N := 68) rfl ?_); (try (refine gate_guard (by rfl) ?_; dsimp only)); refine R_makec (Kd.int .u8) _ 5 rfl 35 _ _ rfl ji33 ji33 rfl rfl Tryd.underlying35 (.int .u8 0) 1 info5 rfl (by decide) (by omega) 0 (ok := fun _ => True) (okp := fun _ => True) rfl (fun _ hk => hk) trivial (of_decide_eq_true (by first | (with_reducible assumption) | assumption)) (of_decide_eq_true (by first | (with_reducible assumption) | assumption)) (Nat.le_trans (Nat.mul_le_mul_right _ (of_decide_eq_true (by first | (with_reducible assumption) | assumption) : (ji33 : Int).toNat ≤ 281474976710656)) (by omega)) (Below.refl _ _) (Nat.le_refl _) ?_; intro v232 w37 ho38 hb hg_ hnew_; clear hg_ hnew_; (first | rw [← Ny231.out] at ho38 | (simp only [Int.reduceToNat] at ho38; rw [← Ny231.out] at ho38)); have n0_ := Aside0.mk (Kd.R_lower ho38 (below_size (by repeat (first | (with_reducible first | exact HB.out | apply below_alloc | apply pw_below_drewN | apply below_drew1) | exact HB.out)))); have n1_ := Aside0.mk (below_step (by repeat (first | (with_reducible first | exact HB.out | apply below_alloc | apply pw_below_drewN | apply below_drew1) | exact HB.out)) hb); clear HB; have HO233 := n0_; have HB := n1_; clear n0_ n1_; clear hb ho38; obtain ⟨Ao39, co39, eo39⟩ := Kd.R_slice HO233.out; subst eo39))
                        go_loopg [71] kj9 (fun kq v71 w' => ∃ (x10_3 : List Int) (x71_3 : Int), v71 = .int .i64 x71_3 ∧ Aside0 (sequiturlaw03_TokenLimits.l1 kq x10_3 (y231.length : Int) x71_3 = some r) ∧ Aside0 (kq ≤ kj9) ∧ Aside0 (Kd.R (Kd.int .u8) 5 w' w.heap.size (fun _ => True) (.slice Ao39 y231.length co39) x10_3) ∧ Aside0 (Below w.heap.size w w'))
                        case atStart => exact ⟨(y231), (0), (by first | rfl | (simp; done) | (simp [*]; done)), H', ⟨Nat.le_refl _⟩, ⟨by (with_reducible repeat (first | apply Kd.R_alloc | apply Kd.R_drewN | apply Kd.R_drew)); exact HO233.out⟩, ⟨by repeat (first | (with_reducible first | exact HB.out | apply below_alloc | apply pw_below_drewN | apply below_drew1) | exact HB.out)⟩⟩
                        case round =>
                          clear H'
                          try clear c1
                          try clear c2
                          try clear p2
                          try clear c3
                          try clear c4
                          try clear c6
                          try clear c6b0
                          try clear p6
                          try clear c7
                          try clear c7b0
                          try clear c7b1
                          try clear c7b2
                          try clear c8
                          try clear c8b0
                          try clear c8b1
                          try clear c8b2
                          try clear c9
                          try clear c10
                          try clear c12
                          try clear c12b0
                          try clear c13
                          try clear c13b0
                          try clear c13b1
                          try clear c13b2
                          try clear c14
                          try clear c14b0
                          try clear c14b1
                          try clear c15
                          try clear c15b0
                          try clear c15b1
                          try clear c16
                          try clear c16b0
                          try clear c17
                          try clear c17b0
                          try clear c17b1
                          try clear c18
                          try clear c18b0
                          try clear c18b1
                          try clear c26
                          try clear c26b0
                          try clear c27
                          try clear c27b0
                          try clear c27b1
                          try clear c28
                          try clear c28b0
                          try clear c28b1
                          try clear c32
                          try clear c34
                          try clear c34b0
                          try clear c34b1
                          try clear c35
                          try clear c35b0
                          try clear c35b1
                          try clear c36
                          try clear c36b0
                          try clear c36b1
                          try clear p2
                          try clear p6
                          obtain ⟨x10_3, x71_3, rfl, HA, HK3, HO_10, HB⟩ := hrel
                          have hl10_3 := (Kd.R_reads' HO_10.out).1
                          rw [hl10_3] at HO_10
                          (try simp only [hl10_3])
                          cases gk with
                          | zero => exact absurd HA.out (by simp [sequiturlaw03_TokenLimits.l1])
                          | succ k3 =>
                            have H := HA.out
                            clear HA
                            simp only [sequiturlaw03_TokenLimits.l1] at H
                            by_cases c40 : x71_3 < (y231.length : Int)
                            · rw [if_pos c40] at H
                              have c40b0 : decide (x71_3 < (y231.length : Int)) = true := decide_eq_true c40
                              (try (have c40b0_hl10_3 := c40b0; rw [hl10_3] at c40b0_hl10_3))
                              clear c40
                              by_cases c41 : 0 ≤ x71_3
                              · rw [if_pos c41] at H
                                have c41b0 : decide (0 ≤ x71_3) = true := decide_eq_true c41
                                clear c41
                                by_cases c42 : x71_3 < (x10_3.length : Int)
                                · rw [if_pos c42] at H
                                  have c42b0 : decide (x71_3 < (x10_3.length : Int)) = true := decide_eq_true c42
                                  (try (have c42b0_hl10_3 := c42b0; rw [hl10_3] at c42b0_hl10_3))
                                  clear c42
                                  obtain ⟨y234, hy234⟩ : ∃ y_ : List Int, y_ = (x10_3.set (x71_3 : Int).toNat 32) := ⟨_, rfl⟩
                                  replace H : (sequiturlaw03_TokenLimits.l1 k3 y234 (y231.length : Int) (wrap64 (x71_3 + 1))) = some r := by first | (rw [hy234]; with_reducible exact H) | (have H2_ := (Option.bind_some _ _).symm.trans H; rw [hy234]; with_reducible exact H2_) | (have H2_ := (Option.bind_some _ _).symm.trans H; with_reducible exact H2_) | with_reducible exact H | (rw [hy234]; exact H) | exact H
                                  have Ny234 := Aside0.mk hy234
                                  clear hy234
                                  have H' := Aside0.mk H
                                  clear H
                                  have p43 : 0 ≤ (x71_3 : Int) := of_decide_eq_true (by first | (with_reducible assumption) | assumption)
                                  have q43 : (x71_3 : Int) < ((x10_3.length : Int) : Int) := of_decide_eq_true (by first | (with_reducible assumption) | assumption)
                                  obtain ⟨go43, co43, eo43, gb43, gl43, cl43, HG43⟩ := Kd.R_form HO_10.out (by omega)
                                  (first | cases eo43 | (injection eo43 with ea_ en_ ec_; (first | subst ea_ | (injection ea_ with ea_; subst ea_)); subst ec_; clear en_))
                                  have GB43 := Aside0.mk gb43
                                  have GG43 := Aside0.mk HG43
                                  clear gb43 gl43 HG43
                                  obtain ⟨hx43_0, hf43_0⟩ := Kd.R_celln 0 HO_10.out (x71_3 : Int) p43 q43
                                  replace p43 := eq_true p43
                                  replace q43 := eq_true q43
                                  have HP44 := Kd.R_putg HO_10.out (x71_3 : Int) 32
                                  go_wp2_with (first | ((with_reducible refine gate_store (t := 5) (p := 76) rfl ?_); refine store_event (t := 5) (p := 76) (v := ?vo_w45) (w1 := (wr.setCell ⟨go43, (x71_3 : Int).toNat, none⟩ (.int .u8 32))) ?hg ?ho ?hn ?hr ?_; (case ho => rfl); (case hg => rfl); (case hn => rfl); (case hr => first | (go_simp; done) | (go_simp; rfl)); intro w45 hw; have hg : wr.grownBy w45 (some go43) := (by rw [hw]; exact HP44.2); have hp_ : Kd.R (Kd.int .u8) 5 w45 w.heap.size (fun _ => True) (.slice (some ⟨go43, 0, none⟩) x10_3.length co39) y234 := (by rw [hw, Ny234.out]; exact HP44.1); clear HP44; have n0_ := Aside0.mk (hp_); have n1_ := Aside0.mk ((by rw [hw]; exact below_set (HB.out) GB43.out : Below w.heap.size w w45)); clear HO_10; clear HB; have HO_10 := n0_; have HB := n1_; clear n0_ n1_; clear hg hw hp_))
                                  (try simp only [← hl10_3])
                                  go_roundg k3
                                  case measure => have := HK1.out; have := HJ9.out; have := HK3.out; omega
                                  case rel => exact ⟨(y234), (wrap64 (x71_3 + 1)), (by first | rfl | (simp; done) | (simp [*]; done)), H', ⟨by have := HK1.out; have := HJ9.out; have := HK3.out; omega⟩, ⟨by (try simp only [hl10_3]); (with_reducible repeat (first | apply Kd.R_alloc | apply Kd.R_drewN | apply Kd.R_drew)); exact HO_10.out⟩, ⟨by repeat (first | (with_reducible first | exact HB.out | apply below_alloc | apply pw_below_drewN | apply below_drew1) | exact HB.out)⟩⟩
                                · rw [if_neg c42] at H
                                  exact absurd H (by simp)
                              · rw [if_neg c41] at H
                                exact absurd H (by simp)
                            · rw [if_neg c40] at H
                              have c40b0 : decide (x71_3 < (y231.length : Int)) = false := decide_eq_false c40
                              (try (have c40b0_hl10_3 := c40b0; rw [hl10_3] at c40b0_hl10_3))
                              clear c40
                              by_cases c46 : (strOfNums x10_3).size + 1 ≤ 9223372036854775807
                              · rw [if_pos c46] at H
                                have c46b0 := eq_true c46
                                have c46b1 : decide ((strOfNums x10_3).size + 1 ≤ 9223372036854775807) = true := decide_eq_true c46
                                try have c46b2 : (9223372036854775807 < (strOfNums x10_3).size + 1) = False := eq_false (Nat.not_lt.2 c46)
                                replace H := Option.bind_eq_some_iff.mp H
                                obtain ⟨⟨t235, t236, t237⟩, A470, H⟩ := H
                                replace H : (if (x10_3.length : Int) ≥ 65536 then (if (t235.length : Int) = 0 then (if t236 = 0 then (some (t237 == 2)) else (none)) else (none)) else (if (t235.length : Int) = 1 then (if 0 < (t235.length : Int) then (if ((rd_T30 t235 0).f2) = (x10_3.length : Int) then (some (t237 == 0)) else (none)) else (none)) else (none))) = some r := H
                                have A47 := Aside0.mk A470
                                clear A470
                                by_cases c48 : (x10_3.length : Int) ≥ 65536
                                · rw [if_pos c48] at H
                                  have c48b0 : decide (65536 ≤ (x10_3.length : Int)) = true := decide_eq_true c48
                                  (try (have c48b0_hl10_3 := c48b0; rw [hl10_3] at c48b0_hl10_3))
                                  have c48b1 : decide (65536 ≤ x10_3.length) = true := decide_eq_true (by omega)
                                  clear c48
                                  by_cases c49 : (t235.length : Int) = 0
                                  · rw [if_pos c49] at H
                                    have c49b0 : ((t235.length : Int) == 0) = true := beq_iff_eq.mpr c49
                                    have c49b1 : ((t235.length : Int) != 0) = false := bne_eq_false_iff_eq.mpr c49
                                    clear c49
                                    by_cases c50 : t236 = 0
                                    · rw [if_pos c50] at H
                                      have c50b0 : (t236 == 0) = true := beq_iff_eq.mpr c50
                                      have c50b1 : (t236 != 0) = false := bne_eq_false_iff_eq.mpr c50
                                      clear c50
                                      obtain rfl := Option.some.inj H
                                      have hcv51 := own_string (P := Tryd.prog) Tryd.underlying35 Tryd.underlying5 Tryd.underlying9 (Kd.own_of_R HO_10.out)
                                      go_wp2_with (first | ((with_reducible refine gate_callee (f := 10) rfl ?_); refine goesL_ (some 82) rfl rfl Tryd.func10 (by kernel_rfl) rfl #[.string ((strOfNums x10_3) ++ (⟨#[121]⟩ : ByteArray))] rfl (by (try simp only [List.map_toArray, List.map_cons, List.map_nil]); first | done | rfl | (simp only [List.length_drop, List.length_take]; rfl)) ?_; (with_reducible refine (token_Of.calls k3 ((strOfNums x10_3) ++ (⟨#[121]⟩ : ByteArray)) t235 t236 t237 _ ?side1 A47.out).mono ?_); (case side1 => exact LaidW.below HLA.out (by repeat (first | (with_reducible first | exact HB.out | apply below_alloc | apply pw_below_drewN | apply below_drew1) | exact HB.out))); (try clear A47); rintro e w52 ⟨v238, rfl, ho0, hb⟩; refine ⟨_, rfl, ?_⟩; have n0_ := Aside0.mk (Kd.R_below (by (with_reducible repeat (first | apply Kd.R_alloc | apply Kd.R_drewN | apply Kd.R_drew)); exact HO_10.out) hb); have n1_ := Aside0.mk (Kd.R_lower ho0 (below_size (by repeat (first | (with_reducible first | exact HB.out | apply below_alloc | apply pw_below_drewN | apply below_drew1) | exact HB.out)))); have n2_ := Aside0.mk (below_step (by repeat (first | (with_reducible first | exact HB.out | apply below_alloc | apply pw_below_drewN | apply below_drew1) | exact HB.out)) hb); clear HO_10; clear HB; have HO_10 := n0_; have HO239 := n1_; have HB := n2_; clear n0_ n1_ n2_; (try clear hb); (try clear hb2); (try clear hk); (try clear hi); (try clear ho0); obtain ⟨Ao53, co53, eo53⟩ := Kd.R_slice HO239.out; subst eo53))
                                      go_ret
                                      exact ⟨by first | rfl | (simp [errW_none, errW_some] <;> rfl) | (simp only [← hji33]; first | rfl | (simp [errW_none, errW_some] <;> rfl)) | (simp [*, errW_none, errW_some] <;> rfl), by repeat (first | (with_reducible first | exact HB.out | apply below_alloc | apply pw_below_drewN | apply below_drew1) | exact HB.out)⟩
                                    · rw [if_neg c50] at H
                                      exact absurd H (by simp)
                                  · rw [if_neg c49] at H
                                    exact absurd H (by simp)
                                · rw [if_neg c48] at H
                                  have c48b0 : decide (65536 ≤ (x10_3.length : Int)) = false := decide_eq_false c48
                                  (try (have c48b0_hl10_3 := c48b0; rw [hl10_3] at c48b0_hl10_3))
                                  have c48b1 : decide (65536 ≤ x10_3.length) = false := decide_eq_false (by omega)
                                  clear c48
                                  by_cases c54 : (t235.length : Int) = 1
                                  · rw [if_pos c54] at H
                                    have c54b0 : ((t235.length : Int) == 1) = true := beq_iff_eq.mpr c54
                                    have c54b1 : ((t235.length : Int) != 1) = false := bne_eq_false_iff_eq.mpr c54
                                    clear c54
                                    by_cases c55 : 0 < (t235.length : Int)
                                    · rw [if_pos c55] at H
                                      have c55b0 : decide (0 < (t235.length : Int)) = true := decide_eq_true c55
                                      (try (have c55b0_hl10_3 := c55b0; rw [hl10_3] at c55b0_hl10_3))
                                      have c55b1 : decide (0 < t235.length) = true := decide_eq_true (by omega)
                                      clear c55
                                      by_cases c56 : ((rd_T30 t235 0).f2) = (x10_3.length : Int)
                                      · rw [if_pos c56] at H
                                        have c56b0 : (((rd_T30 t235 0).f2) == (x10_3.length : Int)) = true := beq_iff_eq.mpr c56
                                        have c56b1 : (((rd_T30 t235 0).f2) != (x10_3.length : Int)) = false := bne_eq_false_iff_eq.mpr c56
                                        clear c56
                                        obtain rfl := Option.some.inj H
                                        have hcv57 := own_string (P := Tryd.prog) Tryd.underlying35 Tryd.underlying5 Tryd.underlying9 (Kd.own_of_R HO_10.out)
                                        go_wp2_with (first | ((with_reducible refine gate_callee (f := 10) rfl ?_); refine goesL_ (some 82) rfl rfl Tryd.func10 (by kernel_rfl) rfl #[.string ((strOfNums x10_3) ++ (⟨#[121]⟩ : ByteArray))] rfl (by (try simp only [List.map_toArray, List.map_cons, List.map_nil]); first | done | rfl | (simp only [List.length_drop, List.length_take]; rfl)) ?_; (with_reducible refine (token_Of.calls k3 ((strOfNums x10_3) ++ (⟨#[121]⟩ : ByteArray)) t235 t236 t237 _ ?side1 A47.out).mono ?_); (case side1 => exact LaidW.below HLA.out (by repeat (first | (with_reducible first | exact HB.out | apply below_alloc | apply pw_below_drewN | apply below_drew1) | exact HB.out))); (try clear A47); rintro e w58 ⟨v238, rfl, ho0, hb⟩; refine ⟨_, rfl, ?_⟩; have n0_ := Aside0.mk (Kd.R_below (by (with_reducible repeat (first | apply Kd.R_alloc | apply Kd.R_drewN | apply Kd.R_drew)); exact HO_10.out) hb); have n1_ := Aside0.mk (Kd.R_lower ho0 (below_size (by repeat (first | (with_reducible first | exact HB.out | apply below_alloc | apply pw_below_drewN | apply below_drew1) | exact HB.out)))); have n2_ := Aside0.mk (below_step (by repeat (first | (with_reducible first | exact HB.out | apply below_alloc | apply pw_below_drewN | apply below_drew1) | exact HB.out)) hb); clear HO_10; clear HB; have HO_10 := n0_; have HO239 := n1_; have HB := n2_; clear n0_ n1_ n2_; (try clear hb); (try clear hb2); (try clear hk); (try clear hi); (try clear ho0); obtain ⟨Ao59, co59, eo59⟩ := Kd.R_slice HO239.out; subst eo59; have p240 : 0 ≤ (0 : Int) := (by omega); have q240 : 0 < (t235.length : Int) := of_decide_eq_true (by first | (with_reducible assumption) | assumption); obtain ⟨ad240, e240, hx240_0, hx240_1, hx240_2⟩ := at_T30 (Kd.R_reads' HO239.out).2.2 0 p240 q240; cases e240; have qi240 : (0 < t235.length) = True := eq_true (by omega); (try rw [show ((0 : Int)).toNat = 0 from rfl] at hx240_0); (try rw [show 0 * 3 = 0 from rfl] at hx240_0); (try rw [Addr.add_zero'] at hx240_0); (try rw [show ((0 : Int)).toNat = 0 from rfl] at hx240_1); (try rw [show 0 * 3 = 0 from rfl] at hx240_1); (try rw [Addr.add_zero'] at hx240_1); (try rw [show ((0 : Int)).toNat = 0 from rfl] at hx240_2); (try rw [show 0 * 3 = 0 from rfl] at hx240_2); (try rw [Addr.add_zero'] at hx240_2); replace p240 := eq_true p240; replace q240 := eq_true q240))
                                        go_ret
                                        exact ⟨by first | rfl | (simp [errW_none, errW_some] <;> rfl) | (simp only [← hji33]; first | rfl | (simp [errW_none, errW_some] <;> rfl)) | (simp [*, errW_none, errW_some] <;> rfl), by repeat (first | (with_reducible first | exact HB.out | apply below_alloc | apply pw_below_drewN | apply below_drew1) | exact HB.out)⟩
                                      · rw [if_neg c56] at H
                                        exact absurd H (by simp)
                                    · rw [if_neg c55] at H
                                      exact absurd H (by simp)
                                  · rw [if_neg c54] at H
                                    exact absurd H (by simp)
                              · rw [if_neg c46] at H
                                exact absurd H (by simp)
                      · rw [if_neg c36] at H
                        exact absurd H (by simp)
                    · rw [if_neg c35] at H
                      exact absurd H (by simp)
                  · rw [if_neg c34] at H
                    exact absurd H (by simp)
          · rw [if_neg c8] at H
            exact absurd H (by simp)
  · replace c4 := Bool.eq_false_iff.mpr c4
    subst c4
    have H1 : (none) = some r := by rw [if_neg (show ¬ (false = true) by decide)] at H; exact H
    clear H
    have H := H1
    clear H1
    exact absurd H (by simp)

/-- THE ONE PURE STATEMENT of sequiturlaw03_TokenLimits. -/
def sequiturlaw03_TokenLimits.Pure : Prop := ∀ (a0 : Int) (a1 : Int), (Lit.int .u8 a0).wf = true → (Lit.int .u32 a1).wf = true → ∃ k, sequiturlaw03_TokenLimits.f k a0 a1 = some true
theorem sequiturlaw03_TokenLimits.walk (P : sequiturlaw03_TokenLimits.Pure) (a0 : Int) (a1 : Int) (w : World)  (hLa : LaidW w) (hg0 : (Lit.int .u8 a0).wf = true) (hg1 : (Lit.int .u32 a1).wf = true) :
    Calls Tryd.prog 7 #[.int .u8 a0, .int .u32 a1] w fun e w' => e = .returned (.bool true) ∧ Below w.heap.size w w' := by
  obtain ⟨k, h⟩ := P a0 a1 hg0 hg1
  refine (sequiturlaw03_TokenLimits.calls k a0 a1 true w  hLa h).mono ?_
  rintro e w' ⟨rfl, hd⟩
  exact ⟨rfl, hd⟩

end Go.Proofs.YtgajmlkhfjlojaaDoor.Print
