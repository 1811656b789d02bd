-- Written by this session's own program over the kit's printer: externals and laid facts are by hand. Not trusted: Lean checks it.
import Derived.Test.YtdnlaeefalmgpaaDoorPrint0
import Derived.Test.YtdnlaeefalmgpaaDoorPrint2
namespace Go.Proofs.YtdnlaeefalmgpaaDoor.Print
open Go.Proofs.YtdnlaeefalmgpaaDoor.Aux Go.Proofs.YtdnlaeefalmgpaaDoor.Spec
open Go.RowKit Go.Proofs.YtdnlaeefalmgpaaDoorW.PrintWords Go.Proofs.YtdnlaeefalmgpaaDoorW.PrintLast Go.Proofs.YtdnlaeefalmgpaaDoorW.PrintMore
attribute [local go_sem] max2_int min2_int max_two min_two max_three min_three max_four min_four   -- for this text's walks alone
set_option linter.unusedVariables false
set_option linter.unusedSimpArgs false

/-! ### sequiturlaw06_SignMany: function 3 -/
mutual
def sequiturlaw06_SignMany.l0 : Nat → Int → Int → List ByteArray → List (S33) → Option (Bool)
  | 0, _, _, _, _ => none
  | k + 1, x4, x5, x204000, x204001 => if x5 < x4 then ((sequiturbase_Digits.f k x5).bind fun t208 => (if 1 + t208.size ≤ 9223372036854775807 then ((sign_Fun.f k x204000 x204001 ((⟨#[110]⟩ : ByteArray) ++ t208) ([] : List ByteArray) (⟨#[73, 110, 116]⟩ : ByteArray)).bind fun bt209 => (if bt209.2.2 = 0 then (if x5 < 256 then (sequiturlaw06_SignMany.j1 k x4 x5 bt209.2.2 false x204000 x204001 bt209.1 bt209.2.1) else (sequiturlaw06_SignMany.j1 k x4 x5 bt209.2.2 true x204000 x204001 bt209.1 bt209.2.1)) else (if x5 < 256 then (sequiturlaw06_SignMany.j1 k x4 x5 bt209.2.2 true x204000 x204001 bt209.1 bt209.2.1) else (sequiturlaw06_SignMany.j1 k x4 x5 bt209.2.2 (bt209.2.2 != 2) x204000 x204001 bt209.1 bt209.2.1)))) else (none))) else (if (x204001.length : Int) = (mn x4 256) then (if x4 < 2 then (some true) else ((sign_Consts.f k x204000 x204001 (⟨#[73, 110, 116]⟩ : ByteArray)).bind fun t204 => ((sequiturbase_Has.f k t204 (⟨#[110, 49]⟩ : ByteArray)).bind fun t207 => (some t207)))) else (none))
def sequiturlaw06_SignMany.j1 : Nat → Int → Int → Int → Bool → List ByteArray → List (S33) → List ByteArray → List (S33) → Option (Bool)
  | 0, _, _, _, _, _, _, _, _ => none
  | k + 1, x4, x5, x8, x42, x204000, x204001, x217000, x217001 => if x42 = true then (none) else (if x8 = 0 then (sequiturlaw06_SignMany.l0 k x4 (wrap64 (x5 + 1)) x217000 x217001) else (sequiturlaw06_SignMany.l0 k x4 (wrap64 (x5 + 1)) x204000 x204001))
end
def sequiturlaw06_SignMany.f (k : Nat) (a0 : Int) : Option (Bool) := (sequiturlaw06_alive.f k).bind fun t202 => (if t202 = true then (sequiturlaw06_SignMany.l0 k (wrap64 (Int.tmod a0 300)) 0 ([] : List ByteArray) ([] : List (S33))) else (none))
theorem sequiturlaw06_SignMany.mono_l : ∀ k, (∀ y0 y1 y2 y3, LeO (sequiturlaw06_SignMany.l0 k y0 y1 y2 y3) (sequiturlaw06_SignMany.l0 (k + 1) y0 y1 y2 y3)) ∧ (∀ y0 y1 y2 y3 y4 y5 y6 y7, LeO (sequiturlaw06_SignMany.j1 k y0 y1 y2 y3 y4 y5 y6 y7) (sequiturlaw06_SignMany.j1 (k + 1) y0 y1 y2 y3 y4 y5 y6 y7))
  | 0 => ⟨fun _ _ _ _ r h => by simp [sequiturlaw06_SignMany.l0] at h, fun _ _ _ _ _ _ _ _ r h => by simp [sequiturlaw06_SignMany.j1] at h⟩
  | k + 1 => by
    obtain ⟨ih0, ih1⟩ := sequiturlaw06_SignMany.mono_l k
    refine ⟨?_, ?_⟩
    · intro y0 y1 y2 y3
      unfold sequiturlaw06_SignMany.l0
      repeat' first
      | (with_reducible exact ih0 _ _ _ _)
      | (with_reducible exact ih1 _ _ _ _ _ _ _ _)
      | (with_reducible exact sequiturbase_Digits.mono _ _)
      | (with_reducible exact sequiturbase_Has.mono _ _ _)
      | (with_reducible exact sequiturlaw06_alive.mono _)
      | (with_reducible exact sign_Consts.mono _ _ _ _)
      | (with_reducible exact sign_Fun.mono _ _ _ _ _ _)
      | (with_reducible exact LeO.refl _)
      | (with_reducible exact LeO.none _)
      | (with_reducible refine LeO.ite ?_ ?_)
      | (with_reducible refine LeO.bind ?_ (fun _ => ?_))
      | exact ih0 _ _ _ _
      | exact ih1 _ _ _ _ _ _ _ _
      | exact sequiturbase_Digits.mono _ _
      | exact sequiturbase_Has.mono _ _ _
      | exact sequiturlaw06_alive.mono _
      | exact sign_Consts.mono _ _ _ _
      | exact sign_Fun.mono _ _ _ _ _ _
      | exact LeO.none _
      | refine LeO.ite ?_ ?_
      | refine LeO.bind ?_ (fun _ => ?_)
    · intro y0 y1 y2 y3 y4 y5 y6 y7
      unfold sequiturlaw06_SignMany.j1
      repeat' first
      | (with_reducible exact ih0 _ _ _ _)
      | (with_reducible exact ih1 _ _ _ _ _ _ _ _)
      | (with_reducible exact sequiturbase_Digits.mono _ _)
      | (with_reducible exact sequiturbase_Has.mono _ _ _)
      | (with_reducible exact sequiturlaw06_alive.mono _)
      | (with_reducible exact sign_Consts.mono _ _ _ _)
      | (with_reducible exact sign_Fun.mono _ _ _ _ _ _)
      | (with_reducible exact LeO.refl _)
      | (with_reducible exact LeO.none _)
      | (with_reducible refine LeO.ite ?_ ?_)
      | (with_reducible refine LeO.bind ?_ (fun _ => ?_))
      | exact ih0 _ _ _ _
      | exact ih1 _ _ _ _ _ _ _ _
      | exact sequiturbase_Digits.mono _ _
      | exact sequiturbase_Has.mono _ _ _
      | exact sequiturlaw06_alive.mono _
      | exact sign_Consts.mono _ _ _ _
      | exact sign_Fun.mono _ _ _ _ _ _
      | exact LeO.none _
      | refine LeO.ite ?_ ?_
      | refine LeO.bind ?_ (fun _ => ?_)
theorem sequiturlaw06_SignMany.mono : ∀ a0 k, LeO (sequiturlaw06_SignMany.f k a0) (sequiturlaw06_SignMany.f (k + 1) a0) := by
  intro a0 k
  obtain ⟨ih0, ih1⟩ := sequiturlaw06_SignMany.mono_l k
  unfold sequiturlaw06_SignMany.f
  repeat' first
      | (with_reducible exact ih0 _ _ _ _)
      | (with_reducible exact ih1 _ _ _ _ _ _ _ _)
      | (with_reducible exact sequiturbase_Digits.mono _ _)
      | (with_reducible exact sequiturbase_Has.mono _ _ _)
      | (with_reducible exact sequiturlaw06_alive.mono _)
      | (with_reducible exact sign_Consts.mono _ _ _ _)
      | (with_reducible exact sign_Fun.mono _ _ _ _ _ _)
      | (with_reducible exact LeO.refl _)
      | (with_reducible exact LeO.none _)
      | (with_reducible refine LeO.ite ?_ ?_)
      | (with_reducible refine LeO.bind ?_ (fun _ => ?_))
      | exact ih0 _ _ _ _
      | exact ih1 _ _ _ _ _ _ _ _
      | exact sequiturbase_Digits.mono _ _
      | exact sequiturbase_Has.mono _ _ _
      | exact sequiturlaw06_alive.mono _
      | exact sign_Consts.mono _ _ _ _
      | exact sign_Fun.mono _ _ _ _ _ _
      | exact LeO.none _
      | refine LeO.ite ?_ ?_
      | refine LeO.bind ?_ (fun _ => ?_)
set_option maxHeartbeats 8000000 in
set_option maxRecDepth 100000 in
theorem sequiturlaw06_SignMany.calls (k : Nat) (a0 : Int) (r : Bool) (w : World) (hLa : LaidW w) (h : sequiturlaw06_SignMany.f k a0 = some r) :
    Calls Tryd.prog 3 #[.int .u16 a0] w fun e w' => e = .returned (.bool r) ∧ Below w.heap.size w w' := by
  have hu27 := Tryd.underlying27
  have hu33 := Tryd.underlying33
  have HB := Aside0.mk (Below.refl w.heap.size w)
  have HLA := Aside0.mk hLa
  clear hLa
  have H : ((sequiturlaw06_alive.f k).bind fun t202 => (if t202 = true then (sequiturlaw06_SignMany.l0 k (wrap64 (Int.tmod a0 300)) 0 ([] : List ByteArray) ([] : List (S33))) else (none))) = some r := h
  clear h
  replace H := Option.bind_eq_some_iff.mp H
  obtain ⟨t202, A20, H⟩ := H
  replace H : (if t202 = true then (sequiturlaw06_SignMany.l0 k (wrap64 (Int.tmod a0 300)) 0 ([] : List ByteArray) ([] : List (S33))) else (none)) = some r := H
  have A2 := Aside0.mk A20
  clear A20
  by_cases c3 : t202 = true
  · subst c3
    have H1 : (sequiturlaw06_SignMany.l0 k (wrap64 (Int.tmod a0 300)) 0 ([] : List ByteArray) ([] : List (S33))) = some r := by rw [if_pos rfl] at H; exact H
    clear H
    have H := H1
    clear H1
    have H' := Aside0.mk H
    clear H
    go_enter Tryd.func3, Tryd.ntmps3
    go_wp2_with (first | ((with_reducible refine gate_callee (f := 8) rfl ?_); refine goesL_ (some 9) rfl rfl Tryd.func8 (by kernel_rfl) rfl #[] rfl (by (try simp only [List.map_toArray, List.map_cons, List.map_nil]); first | done | rfl | (simp only [List.length_drop, List.length_take]; rfl)) ?_; (with_reducible refine (sequiturlaw06_alive.calls k  true _ ?side1 A2.out).mono ?_); (case side1 => exact LaidW.below HLA.out (by repeat (first | (with_reducible first | exact HB.out | apply below_alloc | apply pw_below_drewN | apply below_drew1) | exact HB.out))); (try clear A2); rintro e w4 ⟨rfl, hb⟩; refine ⟨_, rfl, ?_⟩; have n0_ := Aside0.mk (below_step (by repeat (first | (with_reducible first | exact HB.out | apply below_alloc | apply pw_below_drewN | apply below_drew1) | exact HB.out)) hb); clear HB; have HB := n0_; clear n0_; (try clear hb); (try clear hb2); (try clear hk); (try clear hi)) | ((with_reducible refine gate_dst (N := 3) rfl ?_); refine box_event ?hg (N := 3) ?hd (cs := #[.slice none 0 0, .slice none 0 0]) (t := 27) ?hr ?_; (case hd => rfl); (case hg => rfl); (case hr => first | (go_simp; done) | (go_simp; rfl)); intro gb203 hg w5 hbox hb; have n0_ := Aside0.mk (below_step (by repeat (first | (with_reducible first | exact HB.out | apply below_alloc | apply pw_below_drewN | apply below_drew1) | exact HB.out)) hb); have n1_ := Aside0.mk (hbox); have n2_ := Aside0.mk ((by rw [hg]; exact (below_size (by repeat (first | (with_reducible first | exact HB.out | apply below_alloc | apply pw_below_drewN | apply below_drew1) | exact HB.out))) : w.heap.size ≤ gb203)); have n3_ := Aside0.mk ((by rw [hg]; exact (below_size (by repeat (first | (with_reducible first | exact HB.out | apply below_alloc | apply pw_below_drewN | apply below_drew1) | exact HB.out))) : w.heap.size ≤ gb203)); clear HB; have HB := n0_; have BK203 := n1_; have GW203 := n2_; have GE203 := n3_; clear n0_ n1_ n2_ n3_; clear hb hbox hg; have hcz6_0 : w5.cell? ⟨gb203, 0, none⟩ = some (.slice none 0 0) := (blk_cell BK203.out 0).trans rfl; have hcz6_1 : w5.cell? ⟨gb203, 1, none⟩ = some (.slice none 0 0) := (blk_cell BK203.out 1).trans rfl; have hfz6_0 := blk_frozen BK203.out 0; have hfz6_1 := blk_frozen BK203.out 1))
    go_loopg [5] k (fun kq v5 w' => ∃ (x5_1 : Int) (x204000_1 : List ByteArray) (x204001_1 : List (S33)) (u204000 : Value) (u204001 : Value), v5 = .int .i64 x5_1 ∧ Aside0 (sequiturlaw06_SignMany.l0 kq (wrap64 (Int.tmod a0 300)) x5_1 x204000_1 x204001_1 = some r) ∧ Aside0 (kq ≤ k) ∧ Aside0 (Kd.R Kd.string 9 w' w.heap.size (fun _ => True) u204000 x204000_1) ∧ Aside0 (Kd.R k33 33 w' w.heap.size (fun k_ => some k_ ≠ (u204000 : Value).ownBlock) u204001 x204001_1) ∧ Aside0 (w'.heap[gb203]? = some (.cells #[u204000, u204001] 27 (0, 0))) ∧ Aside0 (Below w.heap.size w w'))
    case atStart => exact ⟨(0), (([] : List ByteArray)), (([] : List (S33))), (.slice none 0 0), (.slice none 0 0), (by first | rfl | (simp; done) | (simp [*]; done)), H', ⟨Nat.le_refl _⟩, ⟨by first | exact Kd.R_nil _ _ _ _ _ | exact Kd.N_nil _ _ _ _ _ | exact Kd.V_nil _ _ _ _ _ | exact Kd.Q_nil _ _ _ _ _ | exact Kd.S_nil _ _ _ _ _⟩, ⟨by first | exact Kd.R_nil _ _ _ _ _ | exact Kd.N_nil _ _ _ _ _ | exact Kd.V_nil _ _ _ _ _ | exact Kd.Q_nil _ _ _ _ _ | exact Kd.S_nil _ _ _ _ _⟩, ⟨by (with_reducible repeat (first | refine blk_drewN ?_ _ | refine blk_drew ?_ | refine blk_alloc ?_ _)); refine blk_put (cs := #[.slice none 0 0, .slice none 0 0]) ?_ 1 _ rfl; (with_reducible repeat (first | refine blk_drewN ?_ _ | refine blk_drew ?_ | refine blk_alloc ?_ _)); refine blk_put (cs := #[.slice none 0 0, .slice none 0 0]) ?_ 0 _ rfl; (with_reducible repeat (first | refine blk_drewN ?_ _ | refine blk_drew ?_ | refine blk_alloc ?_ _)); exact BK203.out⟩, ⟨by repeat (first | (with_reducible first | exact HB.out | apply below_alloc | apply pw_below_drewN | apply below_drew1 | refine below_set ?_ GE203.out) | exact HB.out)⟩⟩
    case round =>
      clear H'
      try clear p2
      try clear c3
      try clear p6
      try clear hcz6_0
      try clear hcz6_1
      try clear hfz6_0
      try clear hfz6_1
      obtain ⟨x5_1, x204000_1, x204001_1, u204000, u204001, rfl, HA, HK1, HO_204000, HO_204001, BK203, HB⟩ := hrel
      cases gk with
      | zero => exact absurd HA.out (by simp [sequiturlaw06_SignMany.l0])
      | succ k1 =>
        have H := HA.out
        clear HA
        simp only [sequiturlaw06_SignMany.l0] at H
        by_cases c7 : x5_1 < (wrap64 (Int.tmod a0 300))
        · rw [if_pos c7] at H
          have c7b0 : decide (x5_1 < (wrap64 (Int.tmod a0 300))) = true := decide_eq_true c7
          clear c7
          replace H := Option.bind_eq_some_iff.mp H
          obtain ⟨t208, A80, H⟩ := H
          replace H : (if 1 + t208.size ≤ 9223372036854775807 then ((sign_Fun.f k1 x204000_1 x204001_1 ((⟨#[110]⟩ : ByteArray) ++ t208) ([] : List ByteArray) (⟨#[73, 110, 116]⟩ : ByteArray)).bind fun bt209 => (if bt209.2.2 = 0 then (if x5_1 < 256 then (sequiturlaw06_SignMany.j1 k1 (wrap64 (Int.tmod a0 300)) x5_1 bt209.2.2 false x204000_1 x204001_1 bt209.1 bt209.2.1) else (sequiturlaw06_SignMany.j1 k1 (wrap64 (Int.tmod a0 300)) x5_1 bt209.2.2 true x204000_1 x204001_1 bt209.1 bt209.2.1)) else (if x5_1 < 256 then (sequiturlaw06_SignMany.j1 k1 (wrap64 (Int.tmod a0 300)) x5_1 bt209.2.2 true x204000_1 x204001_1 bt209.1 bt209.2.1) else (sequiturlaw06_SignMany.j1 k1 (wrap64 (Int.tmod a0 300)) x5_1 bt209.2.2 (bt209.2.2 != 2) x204000_1 x204001_1 bt209.1 bt209.2.1)))) else (none)) = some r := H
          have A8 := Aside0.mk A80
          clear A80
          by_cases c9 : 1 + t208.size ≤ 9223372036854775807
          · rw [if_pos c9] at H
            have c9b0 := eq_true c9
            have c9b1 : decide (1 + t208.size ≤ 9223372036854775807) = true := decide_eq_true c9
            try have c9b2 : (9223372036854775807 < 1 + t208.size) = False := eq_false (Nat.not_lt.2 c9)
            replace H := Option.bind_eq_some_iff.mp H
            obtain ⟨⟨t209, t212, t215⟩, A100, H⟩ := H
            replace H : (if t215 = 0 then (if x5_1 < 256 then (sequiturlaw06_SignMany.j1 k1 (wrap64 (Int.tmod a0 300)) x5_1 t215 false x204000_1 x204001_1 t209 t212) else (sequiturlaw06_SignMany.j1 k1 (wrap64 (Int.tmod a0 300)) x5_1 t215 true x204000_1 x204001_1 t209 t212)) else (if x5_1 < 256 then (sequiturlaw06_SignMany.j1 k1 (wrap64 (Int.tmod a0 300)) x5_1 t215 true x204000_1 x204001_1 t209 t212) else (sequiturlaw06_SignMany.j1 k1 (wrap64 (Int.tmod a0 300)) x5_1 t215 (t215 != 2) x204000_1 x204001_1 t209 t212))) = some r := H
            have A10 := Aside0.mk A100
            clear A100
            have HC11 := Aside0.mk H
            clear H
            go_upto_region 10 with (first | ((with_reducible refine gate_callee (f := 9) rfl ?_); refine goesL_ (some 21) rfl rfl Tryd.func9 (by kernel_rfl) rfl #[.int .i64 x5_1] rfl (by (try simp only [List.map_toArray, List.map_cons, List.map_nil]); first | done | rfl | (simp only [List.length_drop, List.length_take]; rfl)) ?_; (with_reducible refine (sequiturbase_Digits.calls k1 x5_1 t208 _ A8.out).mono ?_); (try clear A8); rintro e w12 ⟨rfl, hb⟩; refine ⟨_, rfl, ?_⟩; have n0_ := Aside0.mk (Kd.R_below (by (with_reducible repeat (first | apply Kd.R_alloc | apply Kd.R_drewN | apply Kd.R_drew)); exact HO_204000.out) hb); have n1_ := Aside0.mk (Kd.R_below (by (with_reducible repeat (first | apply Kd.R_alloc | apply Kd.R_drewN | apply Kd.R_drew)); exact HO_204001.out) hb); have n2_ := Aside0.mk (blk_below (g := gb203) (o := .cells #[u204000, u204001] 27 (0, 0)) (by (with_reducible repeat (first | refine blk_drewN ?_ _ | refine blk_drew ?_ | refine blk_alloc ?_ _)); exact BK203.out) hb); have n3_ := Aside0.mk (below_step (by repeat (first | (with_reducible first | exact HB.out | apply below_alloc | apply pw_below_drewN | apply below_drew1 | refine below_set ?_ GE203.out) | exact HB.out)) hb); clear HO_204000; clear HO_204001; clear BK203; clear HB; have HO_204000 := n0_; have HO_204001 := n1_; have BK203 := n2_; have HB := n3_; clear n0_ n1_ n2_ n3_; (try clear hb); (try clear hb2); (try clear hk); (try clear hi); have hcz13_0 : w12.cell? ⟨gb203, 0, none⟩ = some (u204000) := (blk_cell BK203.out 0).trans rfl; have hcz13_1 : w12.cell? ⟨gb203, 1, none⟩ = some (u204001) := (blk_cell BK203.out 1).trans rfl; have hfz13_0 := blk_frozen BK203.out 0; have hfz13_1 := blk_frozen BK203.out 1; obtain ⟨Ao14, co14, eo14⟩ := Kd.R_slice HO_204000.out; subst eo14; obtain ⟨Ao15, co15, eo15⟩ := Kd.R_slice HO_204001.out; subst eo15) | ((with_reducible refine gate_callee (f := 10) rfl ?_); refine goesL_ (some 27) rfl rfl Tryd.func10 (by kernel_rfl) rfl #[.agg #[.slice Ao14 x204000_1.length co14, .slice Ao15 x204001_1.length co15], .agg #[.string ((⟨#[110]⟩ : ByteArray) ++ t208), .slice none 0 0, .string (⟨#[73, 110, 116]⟩ : ByteArray)]] rfl (by (try simp only [List.map_toArray, List.map_cons, List.map_nil]); first | done | rfl | (simp only [List.length_drop, List.length_take]; rfl)) ?_; (refine (sign_Fun.calls k1 _ _ x204000_1 _ _ x204001_1 ((⟨#[110]⟩ : ByteArray) ++ t208) _ _ ([] : List ByteArray) (⟨#[73, 110, 116]⟩ : ByteArray) t209 t212 t215 _ ?side1 ?side2 ?side3 ?side4 ?side5 ?side6 ?side7 A10.out).mono ?_); (case side1 => repeat (first | exact (Kd.R_reads' HO_204000.out).2.2 | (with_reducible refine Kd.C_alloc ?_ _) | (with_reducible refine Kd.C_drewN ?_ _) | (with_reducible refine Kd.C_drew ?_))); (case side2 => exact (Kd.R_reads' HO_204000.out).2.1); (case side3 => repeat (first | exact (Kd.R_reads' HO_204001.out).2.2 | (with_reducible refine Kd.C_alloc ?_ _) | (with_reducible refine Kd.C_drewN ?_ _) | (with_reducible refine Kd.C_drew ?_))); (case side4 => exact (Kd.R_reads' HO_204001.out).2.1); (case side5 => exact Kd.C_nil _ _); (case side6 => exact Nat.le_refl _); (case side7 => exact LaidW.below HLA.out (by repeat (first | (with_reducible first | exact HB.out | apply below_alloc | apply pw_below_drewN | apply below_drew1 | refine below_set ?_ GE203.out) | exact HB.out))); (try clear A10); rintro e w16 ⟨v210, v213, rfl, ho0, ho1, hb⟩; refine ⟨_, rfl, ?_⟩; have n0_ := Aside0.mk (Kd.R_elder' (by (with_reducible repeat (first | apply Kd.R_alloc | apply Kd.R_drewN | apply Kd.R_drew)); exact HO_204000.out) (Kd.R_base ho0) hb); have n1_ := Aside0.mk (Kd.R_mono (Kd.R_told (Kd.R_told (Kd.R_old (by (with_reducible repeat (first | apply Kd.R_alloc | apply Kd.R_drewN | apply Kd.R_drew)); exact HO_204001.out) hb) (Kd.R_base ho0)) (Kd.R_base ho1)) (fun _ h_ => h_.1)); have n2_ := Aside0.mk (Kd.R_lower (Kd.R_new' ho0 (Kd.R_lt (by (with_reducible repeat (first | apply Kd.R_alloc | apply Kd.R_drewN | apply Kd.R_drew)); exact HO_204000.out))) (below_size (by repeat (first | (with_reducible first | exact HB.out | apply below_alloc | apply pw_below_drewN | apply below_drew1 | refine below_set ?_ GE203.out) | exact HB.out)))); have n3_ := Aside0.mk (Kd.R_lower (Kd.R_new' (Kd.R_new' ho1 (Kd.R_lt (by (with_reducible repeat (first | apply Kd.R_alloc | apply Kd.R_drewN | apply Kd.R_drew)); exact HO_204000.out))) (Kd.R_lt (by (with_reducible repeat (first | apply Kd.R_alloc | apply Kd.R_drewN | apply Kd.R_drew)); exact HO_204001.out))) (below_size (by repeat (first | (with_reducible first | exact HB.out | apply below_alloc | apply pw_below_drewN | apply below_drew1 | refine below_set ?_ GE203.out) | exact HB.out)))); have n4_ := Aside0.mk (blk_below (g := gb203) (o := .cells #[.slice Ao14 x204000_1.length co14, .slice Ao15 x204001_1.length co15] 27 (0, 0)) (by (with_reducible repeat (first | refine blk_drewN ?_ _ | refine blk_drew ?_ | refine blk_alloc ?_ _)); exact BK203.out) hb); have n5_ := Aside0.mk (below_step (by repeat (first | (with_reducible first | exact HB.out | apply below_alloc | apply pw_below_drewN | apply below_drew1 | refine below_set ?_ GE203.out) | exact HB.out)) hb); clear HO_204000; clear HO_204001; clear BK203; clear HB; have HO_204000 := n0_; have HO_204001 := n1_; have HO211 := n2_; have HO214 := n3_; have BK203 := n4_; have HB := n5_; clear n0_ n1_ n2_ n3_ n4_ n5_; (try clear hb); (try clear hb2); (try clear hk); (try clear hi); (try clear ho0); (try clear ho1)) | ((with_reducible refine gate_dst (N := 7) rfl ?_); refine box_event ?hg (N := 7) ?hd (cs := #[.slice none 0 0, .slice none 0 0]) (t := 27) ?hr ?_; (case hd => rfl); (case hg => rfl); (case hr => first | (go_simp; done) | (go_simp; rfl)); intro gb216 hg w17 hbox hb; have n0_ := Aside0.mk (Kd.R_below (by (with_reducible repeat (first | apply Kd.R_alloc | apply Kd.R_drewN | apply Kd.R_drew)); exact HO_204000.out) hb); have n1_ := Aside0.mk (Kd.R_below (by (with_reducible repeat (first | apply Kd.R_alloc | apply Kd.R_drewN | apply Kd.R_drew)); exact HO_204001.out) hb); have n2_ := Aside0.mk (Kd.R_below (by (with_reducible repeat (first | apply Kd.R_alloc | apply Kd.R_drewN | apply Kd.R_drew)); exact HO211.out) hb); have n3_ := Aside0.mk (Kd.R_below (by (with_reducible repeat (first | apply Kd.R_alloc | apply Kd.R_drewN | apply Kd.R_drew)); exact HO214.out) hb); have n4_ := Aside0.mk (blk_below (g := gb203) (o := .cells #[.slice Ao14 x204000_1.length co14, .slice Ao15 x204001_1.length co15] 27 (0, 0)) (by (with_reducible repeat (first | refine blk_drewN ?_ _ | refine blk_drew ?_ | refine blk_alloc ?_ _)); exact BK203.out) hb); have n5_ := Aside0.mk (below_step (by repeat (first | (with_reducible first | exact HB.out | apply below_alloc | apply pw_below_drewN | apply below_drew1 | refine below_set ?_ GE203.out) | exact HB.out)) hb); have n6_ := Aside0.mk (hbox); have n7_ := Aside0.mk ((by rw [hg]; exact (below_size (by repeat (first | (with_reducible first | exact HB.out | apply below_alloc | apply pw_below_drewN | apply below_drew1 | refine below_set ?_ GE203.out) | exact HB.out))) : w.heap.size ≤ gb216)); have n8_ := Aside0.mk ((by rw [hg]; exact (below_size (by repeat (first | (with_reducible first | exact HB.out | apply below_alloc | apply pw_below_drewN | apply below_drew1 | refine below_set ?_ GE203.out) | exact HB.out))) : w.heap.size ≤ gb216)); have n9_ := Aside0.mk ((by rw [hg]; exact Nat.ne_of_lt (blk_lt (g := gb203) (o := .cells #[.slice Ao14 x204000_1.length co14, .slice Ao15 x204001_1.length co15] 27 (0, 0)) (by (with_reducible repeat (first | refine blk_drewN ?_ _ | refine blk_drew ?_ | refine blk_alloc ?_ _)); exact BK203.out)) : gb203 ≠ gb216)); have n10_ := Aside0.mk ((by rw [hg]; exact Nat.ne_of_gt (blk_lt (g := gb203) (o := .cells #[.slice Ao14 x204000_1.length co14, .slice Ao15 x204001_1.length co15] 27 (0, 0)) (by (with_reducible repeat (first | refine blk_drewN ?_ _ | refine blk_drew ?_ | refine blk_alloc ?_ _)); exact BK203.out)) : gb216 ≠ gb203)); clear HO_204000; clear HO_204001; clear HO211; clear HO214; clear BK203; clear HB; have HO_204000 := n0_; have HO_204001 := n1_; have HO211 := n2_; have HO214 := n3_; have BK203 := n4_; have HB := n5_; have BK216 := n6_; have GW216 := n7_; have GE216 := n8_; have NB203_216 := n9_; have NB216_203 := n10_; clear n0_ n1_ n2_ n3_ n4_ n5_ n6_ n7_ n8_ n9_ n10_; clear hb hbox hg; obtain ⟨Ao18, co18, eo18⟩ := Kd.R_slice HO211.out; subst eo18; have hnb19 := NB216_203.out; have hnc19 := NB203_216.out; have hcz20_0 : w17.cell? ⟨gb216, 0, none⟩ = some (.slice none 0 0) := (blk_cell BK216.out 0).trans rfl; have hcz20_1 : w17.cell? ⟨gb216, 1, none⟩ = some (.slice none 0 0) := (blk_cell BK216.out 1).trans rfl; have hfz20_0 := blk_frozen BK216.out 0; have hfz20_1 := blk_frozen BK216.out 1; obtain ⟨Ao21, co21, eo21⟩ := Kd.R_slice HO214.out; subst eo21))
            (try simp only [Act.put, List.setIfInBounds_toArray, List.set_cons_zero, List.set_cons_succ])
            go_cut [42] (fun v42 wc => ∃ (kq : Nat) (x42_10 : Bool), v42 = .bool x42_10 ∧ Aside0 (sequiturlaw06_SignMany.j1 kq (wrap64 (Int.tmod a0 300)) x5_1 t215 x42_10 x204000_1 x204001_1 t209 t212 = some r) ∧ Aside0 (kq ≤ k1) ∧ Aside0 (Kd.R Kd.string 9 wc w.heap.size (fun k_ => some k_ ≠ ((.slice Ao18 t209.length co18) : Value).ownBlock) (.slice Ao14 x204000_1.length co14) x204000_1) ∧ Aside0 (Kd.R k33 33 wc w.heap.size (fun k_ => some k_ ≠ ((.slice Ao14 x204000_1.length co14) : Value).ownBlock ∧ some k_ ≠ ((.slice Ao18 t209.length co18) : Value).ownBlock ∧ some k_ ≠ ((.slice Ao21 t212.length co21) : Value).ownBlock) (.slice Ao15 x204001_1.length co15) x204001_1) ∧ Aside0 (Kd.R Kd.string 9 wc w.heap.size (fun k_ => some k_ ≠ ((.slice Ao14 x204000_1.length co14) : Value).ownBlock) (.slice Ao18 t209.length co18) t209) ∧ Aside0 (Kd.R k33 33 wc w.heap.size (fun k_ => some k_ ≠ ((.slice Ao14 x204000_1.length co14) : Value).ownBlock ∧ some k_ ≠ ((.slice Ao15 x204001_1.length co15) : Value).ownBlock ∧ some k_ ≠ ((.slice Ao18 t209.length co18) : Value).ownBlock) (.slice Ao21 t212.length co21) t212) ∧ Aside0 (wc.heap[gb203]? = some (.cells #[(.slice Ao14 x204000_1.length co14), (.slice Ao15 x204001_1.length co15)] 27 (0, 0))) ∧ Aside0 (wc.heap[gb216]? = some (.cells #[(.slice Ao18 t209.length co18), (.slice Ao21 t212.length co21)] 27 (0, 0))) ∧ Aside0 (Below w.heap.size w wc))
            case first =>
              have H := HC11.out
              clear HC11
              by_cases c22 : t215 = 0
              · rw [if_pos c22] at H
                have c22b0 : (t215 == 0) = true := beq_iff_eq.mpr c22
                have c22b1 : (t215 != 0) = false := bne_eq_false_iff_eq.mpr c22
                clear c22
                (first | rw [c22b0] | (simp only [i64_w, i32_w]; rw [c22b0]) | skip)
                by_cases c23 : x5_1 < 256
                · rw [if_pos c23] at H
                  have c23b0 : decide (x5_1 < 256) = true := decide_eq_true c23
                  clear c23
                  have H' := Aside0.mk H
                  clear H
                  go_wp2
                  go_meet
                  case rel => exact ⟨_, (false), (by first | rfl | (simp; done) | (simp [*]; done)), H', ⟨by have := HK1.out; first | omega | exact Nat.le_refl _⟩, ⟨by (with_reducible repeat (first | apply Kd.R_alloc | apply Kd.R_drewN | apply Kd.R_drew)); exact Kd.R_mono (Kd.R_far (p := ⟨gb216, 1, none⟩) (Kd.R_far (p := ⟨gb216, 0, none⟩) (Kd.R_types HO_204000.out BK216.out (by decide)) (fun _ hk => hk.2) (.slice Ao18 t209.length co18)) (fun _ hk => hk.2) (.slice Ao21 t212.length co21)) (fun _ hk => hk.1.2)⟩, ⟨by (with_reducible repeat (first | apply Kd.R_alloc | apply Kd.R_drewN | apply Kd.R_drew)); exact Kd.R_mono (Kd.R_far (p := ⟨gb216, 1, none⟩) (Kd.R_far (p := ⟨gb216, 0, none⟩) (Kd.R_types HO_204001.out BK216.out (by decide)) (fun _ hk => hk.2) (.slice Ao18 t209.length co18)) (fun _ hk => hk.2) (.slice Ao21 t212.length co21)) (fun _ hk => ⟨hk.1.1.1, ⟨hk.1.1.2, hk.1.2⟩⟩)⟩, ⟨by (with_reducible repeat (first | apply Kd.R_alloc | apply Kd.R_drewN | apply Kd.R_drew)); exact Kd.R_mono (Kd.R_far (p := ⟨gb216, 1, none⟩) (Kd.R_far (p := ⟨gb216, 0, none⟩) (Kd.R_types HO211.out BK216.out (by decide)) (fun _ hk => hk.2) (.slice Ao18 t209.length co18)) (fun _ hk => hk.2) (.slice Ao21 t212.length co21)) (fun _ hk => hk.1.2)⟩, ⟨by (with_reducible repeat (first | apply Kd.R_alloc | apply Kd.R_drewN | apply Kd.R_drew)); exact Kd.R_mono (Kd.R_far (p := ⟨gb216, 1, none⟩) (Kd.R_far (p := ⟨gb216, 0, none⟩) (Kd.R_types HO214.out BK216.out (by decide)) (fun _ hk => hk.2) (.slice Ao18 t209.length co18)) (fun _ hk => hk.2) (.slice Ao21 t212.length co21)) (fun _ hk => ⟨hk.1.1.2, ⟨hk.1.2, hk.1.1.1⟩⟩)⟩, ⟨by (with_reducible repeat (first | refine blk_drewN ?_ _ | refine blk_drew ?_ | refine blk_alloc ?_ _)); refine blk_far ?_ NB203_216.out _; (with_reducible repeat (first | refine blk_drewN ?_ _ | refine blk_drew ?_ | refine blk_alloc ?_ _)); refine blk_far ?_ NB203_216.out _; (with_reducible repeat (first | refine blk_drewN ?_ _ | refine blk_drew ?_ | refine blk_alloc ?_ _)); exact BK203.out⟩, ⟨by (with_reducible repeat (first | refine blk_drewN ?_ _ | refine blk_drew ?_ | refine blk_alloc ?_ _)); refine blk_put (cs := #[.slice Ao18 t209.length co18, .slice none 0 0]) ?_ 1 _ rfl; (with_reducible repeat (first | refine blk_drewN ?_ _ | refine blk_drew ?_ | refine blk_alloc ?_ _)); refine blk_put (cs := #[.slice none 0 0, .slice none 0 0]) ?_ 0 _ rfl; (with_reducible repeat (first | refine blk_drewN ?_ _ | refine blk_drew ?_ | refine blk_alloc ?_ _)); exact BK216.out⟩, ⟨by repeat (first | (with_reducible first | exact HB.out | apply below_alloc | apply pw_below_drewN | apply below_drew1 | refine below_set ?_ GE203.out | refine below_set ?_ GE216.out) | exact HB.out)⟩⟩
                · rw [if_neg c23] at H
                  have c23b0 : decide (x5_1 < 256) = false := decide_eq_false c23
                  clear c23
                  have H' := Aside0.mk H
                  clear H
                  go_wp2
                  go_meet
                  case rel => exact ⟨_, (true), (by first | rfl | (simp; done) | (simp [*]; done)), H', ⟨by have := HK1.out; first | omega | exact Nat.le_refl _⟩, ⟨by (with_reducible repeat (first | apply Kd.R_alloc | apply Kd.R_drewN | apply Kd.R_drew)); exact Kd.R_mono (Kd.R_far (p := ⟨gb216, 1, none⟩) (Kd.R_far (p := ⟨gb216, 0, none⟩) (Kd.R_types HO_204000.out BK216.out (by decide)) (fun _ hk => hk.2) (.slice Ao18 t209.length co18)) (fun _ hk => hk.2) (.slice Ao21 t212.length co21)) (fun _ hk => hk.1.2)⟩, ⟨by (with_reducible repeat (first | apply Kd.R_alloc | apply Kd.R_drewN | apply Kd.R_drew)); exact Kd.R_mono (Kd.R_far (p := ⟨gb216, 1, none⟩) (Kd.R_far (p := ⟨gb216, 0, none⟩) (Kd.R_types HO_204001.out BK216.out (by decide)) (fun _ hk => hk.2) (.slice Ao18 t209.length co18)) (fun _ hk => hk.2) (.slice Ao21 t212.length co21)) (fun _ hk => ⟨hk.1.1.1, ⟨hk.1.1.2, hk.1.2⟩⟩)⟩, ⟨by (with_reducible repeat (first | apply Kd.R_alloc | apply Kd.R_drewN | apply Kd.R_drew)); exact Kd.R_mono (Kd.R_far (p := ⟨gb216, 1, none⟩) (Kd.R_far (p := ⟨gb216, 0, none⟩) (Kd.R_types HO211.out BK216.out (by decide)) (fun _ hk => hk.2) (.slice Ao18 t209.length co18)) (fun _ hk => hk.2) (.slice Ao21 t212.length co21)) (fun _ hk => hk.1.2)⟩, ⟨by (with_reducible repeat (first | apply Kd.R_alloc | apply Kd.R_drewN | apply Kd.R_drew)); exact Kd.R_mono (Kd.R_far (p := ⟨gb216, 1, none⟩) (Kd.R_far (p := ⟨gb216, 0, none⟩) (Kd.R_types HO214.out BK216.out (by decide)) (fun _ hk => hk.2) (.slice Ao18 t209.length co18)) (fun _ hk => hk.2) (.slice Ao21 t212.length co21)) (fun _ hk => ⟨hk.1.1.2, ⟨hk.1.2, hk.1.1.1⟩⟩)⟩, ⟨by (with_reducible repeat (first | refine blk_drewN ?_ _ | refine blk_drew ?_ | refine blk_alloc ?_ _)); refine blk_far ?_ NB203_216.out _; (with_reducible repeat (first | refine blk_drewN ?_ _ | refine blk_drew ?_ | refine blk_alloc ?_ _)); refine blk_far ?_ NB203_216.out _; (with_reducible repeat (first | refine blk_drewN ?_ _ | refine blk_drew ?_ | refine blk_alloc ?_ _)); exact BK203.out⟩, ⟨by (with_reducible repeat (first | refine blk_drewN ?_ _ | refine blk_drew ?_ | refine blk_alloc ?_ _)); refine blk_put (cs := #[.slice Ao18 t209.length co18, .slice none 0 0]) ?_ 1 _ rfl; (with_reducible repeat (first | refine blk_drewN ?_ _ | refine blk_drew ?_ | refine blk_alloc ?_ _)); refine blk_put (cs := #[.slice none 0 0, .slice none 0 0]) ?_ 0 _ rfl; (with_reducible repeat (first | refine blk_drewN ?_ _ | refine blk_drew ?_ | refine blk_alloc ?_ _)); exact BK216.out⟩, ⟨by repeat (first | (with_reducible first | exact HB.out | apply below_alloc | apply pw_below_drewN | apply below_drew1 | refine below_set ?_ GE203.out | refine below_set ?_ GE216.out) | exact HB.out)⟩⟩
              · rw [if_neg c22] at H
                have c22b0 : (t215 == 0) = false := beq_eq_false_iff_ne.mpr c22
                have c22b1 : (t215 != 0) = true := bne_iff_ne.mpr c22
                (first | rw [c22b0] | (simp only [i64_w, i32_w]; rw [c22b0]) | skip)
                by_cases c24 : x5_1 < 256
                · rw [if_pos c24] at H
                  have c24b0 : decide (x5_1 < 256) = true := decide_eq_true c24
                  clear c24
                  have H' := Aside0.mk H
                  clear H
                  go_wp2
                  go_meet
                  case rel => exact ⟨_, (true), (by first | rfl | (simp; done) | (simp [*]; done)), H', ⟨by have := HK1.out; first | omega | exact Nat.le_refl _⟩, ⟨by (with_reducible repeat (first | apply Kd.R_alloc | apply Kd.R_drewN | apply Kd.R_drew)); exact Kd.R_mono (Kd.R_far (p := ⟨gb216, 1, none⟩) (Kd.R_far (p := ⟨gb216, 0, none⟩) (Kd.R_types HO_204000.out BK216.out (by decide)) (fun _ hk => hk.2) (.slice Ao18 t209.length co18)) (fun _ hk => hk.2) (.slice Ao21 t212.length co21)) (fun _ hk => hk.1.2)⟩, ⟨by (with_reducible repeat (first | apply Kd.R_alloc | apply Kd.R_drewN | apply Kd.R_drew)); exact Kd.R_mono (Kd.R_far (p := ⟨gb216, 1, none⟩) (Kd.R_far (p := ⟨gb216, 0, none⟩) (Kd.R_types HO_204001.out BK216.out (by decide)) (fun _ hk => hk.2) (.slice Ao18 t209.length co18)) (fun _ hk => hk.2) (.slice Ao21 t212.length co21)) (fun _ hk => ⟨hk.1.1.1, ⟨hk.1.1.2, hk.1.2⟩⟩)⟩, ⟨by (with_reducible repeat (first | apply Kd.R_alloc | apply Kd.R_drewN | apply Kd.R_drew)); exact Kd.R_mono (Kd.R_far (p := ⟨gb216, 1, none⟩) (Kd.R_far (p := ⟨gb216, 0, none⟩) (Kd.R_types HO211.out BK216.out (by decide)) (fun _ hk => hk.2) (.slice Ao18 t209.length co18)) (fun _ hk => hk.2) (.slice Ao21 t212.length co21)) (fun _ hk => hk.1.2)⟩, ⟨by (with_reducible repeat (first | apply Kd.R_alloc | apply Kd.R_drewN | apply Kd.R_drew)); exact Kd.R_mono (Kd.R_far (p := ⟨gb216, 1, none⟩) (Kd.R_far (p := ⟨gb216, 0, none⟩) (Kd.R_types HO214.out BK216.out (by decide)) (fun _ hk => hk.2) (.slice Ao18 t209.length co18)) (fun _ hk => hk.2) (.slice Ao21 t212.length co21)) (fun _ hk => ⟨hk.1.1.2, ⟨hk.1.2, hk.1.1.1⟩⟩)⟩, ⟨by (with_reducible repeat (first | refine blk_drewN ?_ _ | refine blk_drew ?_ | refine blk_alloc ?_ _)); refine blk_far ?_ NB203_216.out _; (with_reducible repeat (first | refine blk_drewN ?_ _ | refine blk_drew ?_ | refine blk_alloc ?_ _)); refine blk_far ?_ NB203_216.out _; (with_reducible repeat (first | refine blk_drewN ?_ _ | refine blk_drew ?_ | refine blk_alloc ?_ _)); exact BK203.out⟩, ⟨by (with_reducible repeat (first | refine blk_drewN ?_ _ | refine blk_drew ?_ | refine blk_alloc ?_ _)); refine blk_put (cs := #[.slice Ao18 t209.length co18, .slice none 0 0]) ?_ 1 _ rfl; (with_reducible repeat (first | refine blk_drewN ?_ _ | refine blk_drew ?_ | refine blk_alloc ?_ _)); refine blk_put (cs := #[.slice none 0 0, .slice none 0 0]) ?_ 0 _ rfl; (with_reducible repeat (first | refine blk_drewN ?_ _ | refine blk_drew ?_ | refine blk_alloc ?_ _)); exact BK216.out⟩, ⟨by repeat (first | (with_reducible first | exact HB.out | apply below_alloc | apply pw_below_drewN | apply below_drew1 | refine below_set ?_ GE203.out | refine below_set ?_ GE216.out) | exact HB.out)⟩⟩
                · rw [if_neg c24] at H
                  have c24b0 : decide (x5_1 < 256) = false := decide_eq_false c24
                  clear c24
                  have H' := Aside0.mk H
                  clear H
                  go_wp2
                  go_meet
                  case rel => exact ⟨_, ((t215 != 2)), (by first | rfl | (simp; done) | (simp [*]; done)), H', ⟨by have := HK1.out; first | omega | exact Nat.le_refl _⟩, ⟨by (with_reducible repeat (first | apply Kd.R_alloc | apply Kd.R_drewN | apply Kd.R_drew)); exact Kd.R_mono (Kd.R_far (p := ⟨gb216, 1, none⟩) (Kd.R_far (p := ⟨gb216, 0, none⟩) (Kd.R_types HO_204000.out BK216.out (by decide)) (fun _ hk => hk.2) (.slice Ao18 t209.length co18)) (fun _ hk => hk.2) (.slice Ao21 t212.length co21)) (fun _ hk => hk.1.2)⟩, ⟨by (with_reducible repeat (first | apply Kd.R_alloc | apply Kd.R_drewN | apply Kd.R_drew)); exact Kd.R_mono (Kd.R_far (p := ⟨gb216, 1, none⟩) (Kd.R_far (p := ⟨gb216, 0, none⟩) (Kd.R_types HO_204001.out BK216.out (by decide)) (fun _ hk => hk.2) (.slice Ao18 t209.length co18)) (fun _ hk => hk.2) (.slice Ao21 t212.length co21)) (fun _ hk => ⟨hk.1.1.1, ⟨hk.1.1.2, hk.1.2⟩⟩)⟩, ⟨by (with_reducible repeat (first | apply Kd.R_alloc | apply Kd.R_drewN | apply Kd.R_drew)); exact Kd.R_mono (Kd.R_far (p := ⟨gb216, 1, none⟩) (Kd.R_far (p := ⟨gb216, 0, none⟩) (Kd.R_types HO211.out BK216.out (by decide)) (fun _ hk => hk.2) (.slice Ao18 t209.length co18)) (fun _ hk => hk.2) (.slice Ao21 t212.length co21)) (fun _ hk => hk.1.2)⟩, ⟨by (with_reducible repeat (first | apply Kd.R_alloc | apply Kd.R_drewN | apply Kd.R_drew)); exact Kd.R_mono (Kd.R_far (p := ⟨gb216, 1, none⟩) (Kd.R_far (p := ⟨gb216, 0, none⟩) (Kd.R_types HO214.out BK216.out (by decide)) (fun _ hk => hk.2) (.slice Ao18 t209.length co18)) (fun _ hk => hk.2) (.slice Ao21 t212.length co21)) (fun _ hk => ⟨hk.1.1.2, ⟨hk.1.2, hk.1.1.1⟩⟩)⟩, ⟨by (with_reducible repeat (first | refine blk_drewN ?_ _ | refine blk_drew ?_ | refine blk_alloc ?_ _)); refine blk_far ?_ NB203_216.out _; (with_reducible repeat (first | refine blk_drewN ?_ _ | refine blk_drew ?_ | refine blk_alloc ?_ _)); refine blk_far ?_ NB203_216.out _; (with_reducible repeat (first | refine blk_drewN ?_ _ | refine blk_drew ?_ | refine blk_alloc ?_ _)); exact BK203.out⟩, ⟨by (with_reducible repeat (first | refine blk_drewN ?_ _ | refine blk_drew ?_ | refine blk_alloc ?_ _)); refine blk_put (cs := #[.slice Ao18 t209.length co18, .slice none 0 0]) ?_ 1 _ rfl; (with_reducible repeat (first | refine blk_drewN ?_ _ | refine blk_drew ?_ | refine blk_alloc ?_ _)); refine blk_put (cs := #[.slice none 0 0, .slice none 0 0]) ?_ 0 _ rfl; (with_reducible repeat (first | refine blk_drewN ?_ _ | refine blk_drew ?_ | refine blk_alloc ?_ _)); exact BK216.out⟩, ⟨by repeat (first | (with_reducible first | exact HB.out | apply below_alloc | apply pw_below_drewN | apply below_drew1 | refine below_set ?_ GE203.out | refine below_set ?_ GE216.out) | exact HB.out)⟩⟩
            case rest =>
              clear HC11
              try clear c1
              try clear c2
              try clear p2
              try clear c3
              try clear p6
              try clear c7
              try clear c7b0
              try clear c8
              try clear c9
              try clear c9b0
              try clear c9b1
              try clear c9b2
              try clear c10
              try clear c19
              try clear c22
              try clear c22b0
              try clear c22b1
              try clear c23
              try clear c23b0
              try clear c24
              try clear c24b0
              try clear hcz13_0
              try clear hcz13_1
              try clear hcz20_0
              try clear hcz20_1
              try clear hcz6_0
              try clear hcz6_1
              try clear hfz13_0
              try clear hfz13_1
              try clear hfz20_0
              try clear hfz20_1
              try clear hfz6_0
              try clear hfz6_1
              try clear p2
              try clear p6
              obtain ⟨kq, x42_10, rfl, HA, HJ10, HO_204000, HO_204001, HO_217000, HO_217001, BK203, BK216, HB⟩ := hcut
              cases kq with
              | zero => exact absurd HA.out (by simp [sequiturlaw06_SignMany.j1])
              | succ kj10 =>
                have H := HA.out
                clear HA
                simp only [sequiturlaw06_SignMany.j1] at H
                by_cases c25 : x42_10 = true
                · subst c25
                  have H1 : (none) = some r := by rw [if_pos rfl] at H; exact H
                  clear H
                  have H := H1
                  clear H1
                  exact absurd H (by simp)
                · replace c25 := Bool.eq_false_iff.mpr c25
                  subst c25
                  have H1 : (if t215 = 0 then (sequiturlaw06_SignMany.l0 kj10 (wrap64 (Int.tmod a0 300)) (wrap64 (x5_1 + 1)) t209 t212) else (sequiturlaw06_SignMany.l0 kj10 (wrap64 (Int.tmod a0 300)) (wrap64 (x5_1 + 1)) x204000_1 x204001_1)) = some r := by rw [if_neg (show ¬ (false = true) by decide)] at H; exact H
                  clear H
                  have H := H1
                  clear H1
                  by_cases c26 : t215 = 0
                  · rw [if_pos c26] at H
                    have c26b0 : (t215 == 0) = true := beq_iff_eq.mpr c26
                    have c26b1 : (t215 != 0) = false := bne_eq_false_iff_eq.mpr c26
                    clear c26
                    have H' := Aside0.mk H
                    clear H
                    have hnb27 := NB216_203.out
                    have hnc27 := NB203_216.out
                    have hcz28_0 : wc.cell? ⟨gb216, 0, none⟩ = some (.slice Ao18 t209.length co18) := (blk_cell BK216.out 0).trans rfl
                    have hcz28_1 : wc.cell? ⟨gb216, 1, none⟩ = some (.slice Ao21 t212.length co21) := (blk_cell BK216.out 1).trans rfl
                    have hfz28_0 := blk_frozen BK216.out 0
                    have hfz28_1 := blk_frozen BK216.out 1
                    have hcz29_0 : wc.cell? ⟨gb203, 0, none⟩ = some (.slice Ao14 x204000_1.length co14) := (blk_cell BK203.out 0).trans rfl
                    have hcz29_1 : wc.cell? ⟨gb203, 1, none⟩ = some (.slice Ao15 x204001_1.length co15) := (blk_cell BK203.out 1).trans rfl
                    have hfz29_0 := blk_frozen BK203.out 0
                    have hfz29_1 := blk_frozen BK203.out 1
                    go_wp2
                    go_roundg kj10
                    case measure => have := HK1.out; have := HJ10.out; omega
                    case rel => exact ⟨(wrap64 (x5_1 + 1)), (t209), (t212), (.slice Ao18 t209.length co18), (.slice Ao21 t212.length co21), (by first | rfl | (simp; done) | (simp [*]; done)), H', ⟨by have := HK1.out; have := HJ10.out; omega⟩, ⟨by (with_reducible repeat (first | apply Kd.R_alloc | apply Kd.R_drewN | apply Kd.R_drew)); exact Kd.R_mono (Kd.R_far (p := ⟨gb203, 1, none⟩) (Kd.R_far (p := ⟨gb203, 0, none⟩) (Kd.R_types HO_217000.out BK203.out (by decide)) (fun _ hk => hk.2) (.slice Ao18 t209.length co18)) (fun _ hk => hk.2) (.slice Ao21 t212.length co21)) (fun _ hk => trivial)⟩, ⟨by (with_reducible repeat (first | apply Kd.R_alloc | apply Kd.R_drewN | apply Kd.R_drew)); exact Kd.R_mono (Kd.R_far (p := ⟨gb203, 1, none⟩) (Kd.R_far (p := ⟨gb203, 0, none⟩) (Kd.R_types HO_217001.out BK203.out (by decide)) (fun _ hk => hk.2) (.slice Ao18 t209.length co18)) (fun _ hk => hk.2) (.slice Ao21 t212.length co21)) (fun _ hk => hk.1.2.2)⟩, ⟨by (with_reducible repeat (first | refine blk_drewN ?_ _ | refine blk_drew ?_ | refine blk_alloc ?_ _)); refine blk_put (cs := #[.slice Ao18 t209.length co18, .slice Ao15 x204001_1.length co15]) ?_ 1 _ rfl; (with_reducible repeat (first | refine blk_drewN ?_ _ | refine blk_drew ?_ | refine blk_alloc ?_ _)); refine blk_put (cs := #[.slice Ao14 x204000_1.length co14, .slice Ao15 x204001_1.length co15]) ?_ 0 _ rfl; (with_reducible repeat (first | refine blk_drewN ?_ _ | refine blk_drew ?_ | refine blk_alloc ?_ _)); exact BK203.out⟩, ⟨by repeat (first | (with_reducible first | exact HB.out | apply below_alloc | apply pw_below_drewN | apply below_drew1 | refine below_set ?_ GE203.out | refine below_set ?_ GE216.out) | exact HB.out)⟩⟩
                  · rw [if_neg c26] at H
                    have c26b0 : (t215 == 0) = false := beq_eq_false_iff_ne.mpr c26
                    have c26b1 : (t215 != 0) = true := bne_iff_ne.mpr c26
                    have H' := Aside0.mk H
                    clear H
                    go_wp2
                    go_roundg kj10
                    case measure => have := HK1.out; have := HJ10.out; omega
                    case rel => exact ⟨(wrap64 (x5_1 + 1)), (x204000_1), (x204001_1), (.slice Ao14 x204000_1.length co14), (.slice Ao15 x204001_1.length co15), (by first | rfl | (simp; done) | (simp [*]; done)), H', ⟨by have := HK1.out; have := HJ10.out; omega⟩, ⟨by (with_reducible repeat (first | apply Kd.R_alloc | apply Kd.R_drewN | apply Kd.R_drew)); exact Kd.R_mono HO_204000.out (fun _ hk => trivial)⟩, ⟨by (with_reducible repeat (first | apply Kd.R_alloc | apply Kd.R_drewN | apply Kd.R_drew)); exact Kd.R_mono HO_204001.out (fun _ hk => hk.1)⟩, ⟨by (with_reducible repeat (first | refine blk_drewN ?_ _ | refine blk_drew ?_ | refine blk_alloc ?_ _)); exact BK203.out⟩, ⟨by repeat (first | (with_reducible first | exact HB.out | apply below_alloc | apply pw_below_drewN | apply below_drew1 | refine below_set ?_ GE203.out | refine below_set ?_ GE216.out) | exact HB.out)⟩⟩
          · rw [if_neg c9] at H
            exact absurd H (by simp)
        · rw [if_neg c7] at H
          have c7b0 : decide (x5_1 < (wrap64 (Int.tmod a0 300))) = false := decide_eq_false c7
          clear c7
          obtain ⟨ji30, hji30⟩ : ∃ j_ : Int, (mn (wrap64 (Int.tmod a0 300)) 256) = j_ := ⟨_, rfl⟩
          replace H : (if (x204001_1.length : Int) = (ji30) then (if (wrap64 (Int.tmod a0 300)) < 2 then (some true) else ((sign_Consts.f k1 x204000_1 x204001_1 (⟨#[73, 110, 116]⟩ : ByteArray)).bind fun t204 => ((sequiturbase_Has.f k1 t204 (⟨#[110, 49]⟩ : ByteArray)).bind fun t207 => (some t207)))) else (none)) = some r := by first | (rw [hji30] at H; exact H) | (simp only [hji30] at H ⊢; exact H)
          have hji30_ : (if 256 < (wrap64 (Int.tmod a0 300)) then 256 else (wrap64 (Int.tmod a0 300))) = ji30 := hji30
          by_cases c31 : (x204001_1.length : Int) = (ji30)
          · rw [if_pos c31] at H
            have c31b0 : ((x204001_1.length : Int) == (ji30)) = true := beq_iff_eq.mpr c31
            have c31b1 : ((x204001_1.length : Int) != (ji30)) = false := bne_eq_false_iff_eq.mpr c31
            clear c31
            by_cases c32 : (wrap64 (Int.tmod a0 300)) < 2
            · rw [if_pos c32] at H
              have c32b0 : decide ((wrap64 (Int.tmod a0 300)) < 2) = true := decide_eq_true c32
              clear c32
              obtain rfl := Option.some.inj H
              have hcz33_0 : wr.cell? ⟨gb203, 0, none⟩ = some (u204000) := (blk_cell BK203.out 0).trans rfl
              have hcz33_1 : wr.cell? ⟨gb203, 1, none⟩ = some (u204001) := (blk_cell BK203.out 1).trans rfl
              have hfz33_0 := blk_frozen BK203.out 0
              have hfz33_1 := blk_frozen BK203.out 1
              obtain ⟨Ao34, co34, eo34⟩ := Kd.R_slice HO_204001.out
              subst eo34
              go_wp2
              go_ret
              exact ⟨by first | rfl | (simp [errW_none, errW_some] <;> rfl) | (simp only [← hji30]; first | rfl | (simp [errW_none, errW_some] <;> rfl)) | (simp [*, errW_none, errW_some] <;> rfl), by repeat (first | (with_reducible first | exact HB.out | apply below_alloc | apply pw_below_drewN | apply below_drew1 | refine below_set ?_ GE203.out) | exact HB.out)⟩
            · rw [if_neg c32] at H
              have c32b0 : decide ((wrap64 (Int.tmod a0 300)) < 2) = false := decide_eq_false c32
              clear c32
              replace H := Option.bind_eq_some_iff.mp H
              obtain ⟨t204, A350, H⟩ := H
              replace H : ((sequiturbase_Has.f k1 t204 (⟨#[110, 49]⟩ : ByteArray)).bind fun t207 => (some t207)) = some r := H
              have A35 := Aside0.mk A350
              clear A350
              replace H := Option.bind_eq_some_iff.mp H
              obtain ⟨t207, A360, H⟩ := H
              replace H : (some t207) = some r := H
              have A36 := Aside0.mk A360
              clear A360
              obtain rfl := Option.some.inj H
              have hcz37_0 : wr.cell? ⟨gb203, 0, none⟩ = some (u204000) := (blk_cell BK203.out 0).trans rfl
              have hcz37_1 : wr.cell? ⟨gb203, 1, none⟩ = some (u204001) := (blk_cell BK203.out 1).trans rfl
              have hfz37_0 := blk_frozen BK203.out 0
              have hfz37_1 := blk_frozen BK203.out 1
              obtain ⟨Ao38, co38, eo38⟩ := Kd.R_slice HO_204001.out
              subst eo38
              obtain ⟨Ao39, co39, eo39⟩ := Kd.R_slice HO_204000.out
              subst eo39
              go_wp2_with (first | (go_at_call 12; (with_reducible refine (sign_Consts.calls k1 _ _ x204000_1 _ _ x204001_1 (⟨#[73, 110, 116]⟩ : ByteArray) t204 _ ?side1 ?side2 ?side3 ?side4 A35.out).mono ?_); (case side1 => repeat (first | exact (Kd.R_reads' HO_204000.out).2.2 | (with_reducible refine Kd.C_alloc ?_ _) | (with_reducible refine Kd.C_drewN ?_ _) | (with_reducible refine Kd.C_drew ?_))); (case side2 => exact (Kd.R_reads' HO_204000.out).2.1); (case side3 => repeat (first | exact (Kd.R_reads' HO_204001.out).2.2 | (with_reducible refine Kd.C_alloc ?_ _) | (with_reducible refine Kd.C_drewN ?_ _) | (with_reducible refine Kd.C_drew ?_))); (case side4 => exact (Kd.R_reads' HO_204001.out).2.1); (try clear A35); rintro e w40 ⟨v205, rfl, ho0, hb⟩; have n0_ := Aside0.mk (Kd.R_elder' (by (with_reducible repeat (first | apply Kd.R_alloc | apply Kd.R_drewN | apply Kd.R_drew)); exact HO_204000.out) (Kd.R_base ho0) hb); have n1_ := Aside0.mk (Kd.R_elder' (by (with_reducible repeat (first | apply Kd.R_alloc | apply Kd.R_drewN | apply Kd.R_drew)); exact HO_204001.out) (Kd.R_base ho0) hb); have n2_ := Aside0.mk (Kd.R_lower (Kd.R_new' ho0 (Kd.R_lt (by (with_reducible repeat (first | apply Kd.R_alloc | apply Kd.R_drewN | apply Kd.R_drew)); exact HO_204000.out))) (below_size (by repeat (first | (with_reducible first | exact HB.out | apply below_alloc | apply pw_below_drewN | apply below_drew1 | refine below_set ?_ GE203.out) | exact HB.out)))); have n3_ := Aside0.mk (blk_below (g := gb203) (o := .cells #[.slice Ao39 x204000_1.length co39, .slice Ao38 x204001_1.length co38] 27 (0, 0)) (by (with_reducible repeat (first | refine blk_drewN ?_ _ | refine blk_drew ?_ | refine blk_alloc ?_ _)); exact BK203.out) hb); have n4_ := Aside0.mk (below_step (by repeat (first | (with_reducible first | exact HB.out | apply below_alloc | apply pw_below_drewN | apply below_drew1 | refine below_set ?_ GE203.out) | exact HB.out)) hb); clear HO_204000; clear HO_204001; clear BK203; clear HB; have HO_204000 := n0_; have HO_204001 := n1_; have HO206 := n2_; have BK203 := n3_; have HB := n4_; clear n0_ n1_ n2_ n3_ n4_; (try clear hb); (try clear hb2); (try clear hk); (try clear hi); (try clear ho0); obtain ⟨Ao41, co41, eo41⟩ := Kd.R_slice HO206.out; subst eo41) | (go_at_call 11; (with_reducible refine (sequiturbase_Has.calls k1 _ _ t204 (⟨#[110, 49]⟩ : ByteArray) t207 _ ?side1 ?side2 A36.out).mono ?_); (case side1 => repeat (first | exact (Kd.R_reads' HO206.out).2.2 | (with_reducible refine Kd.C_alloc ?_ _) | (with_reducible refine Kd.C_drewN ?_ _) | (with_reducible refine Kd.C_drew ?_))); (case side2 => exact (Kd.R_reads' HO206.out).2.1); (try clear A36); rintro e w' ⟨rfl, ⟨nd, rfl⟩⟩))
              go_ret
              exact ⟨by first | rfl | (simp [errW_none, errW_some] <;> rfl) | (simp only [← hji30]; first | rfl | (simp [errW_none, errW_some] <;> rfl)) | (simp [*, errW_none, errW_some] <;> rfl), by repeat (first | (with_reducible first | exact HB.out | apply below_alloc | apply pw_below_drewN | apply below_drew1 | refine below_set ?_ GE203.out) | exact HB.out)⟩
          · rw [if_neg c31] at H
            exact absurd H (by simp)
  · replace c3 := Bool.eq_false_iff.mpr c3
    subst c3
    have H1 : (none) = some r := by rw [if_neg (show ¬ (false = true) by decide)] at H; exact H
    clear H
    have H := H1
    clear H1
    exact absurd H (by simp)

/-- THE ONE PURE STATEMENT of sequiturlaw06_SignMany. -/
def sequiturlaw06_SignMany.Pure : Prop := ∀ (a0 : Int), (Lit.int .u16 a0).wf = true → ∃ k, sequiturlaw06_SignMany.f k a0 = some true
theorem sequiturlaw06_SignMany.walk (P : sequiturlaw06_SignMany.Pure) (a0 : Int) (w : World)  (hLa : LaidW w) (hg0 : (Lit.int .u16 a0).wf = true) :
    Calls Tryd.prog 3 #[.int .u16 a0] w fun e w' => e = .returned (.bool true) ∧ Below w.heap.size w w' := by
  obtain ⟨k, h⟩ := P a0 hg0
  refine (sequiturlaw06_SignMany.calls k a0 true w  hLa h).mono ?_
  rintro e w' ⟨rfl, hd⟩
  exact ⟨rfl, hd⟩

end Go.Proofs.YtdnlaeefalmgpaaDoor.Print
