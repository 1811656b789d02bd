-- Written by this session's own program over the kit's printer: externals and laid facts are by hand. Not trusted: Lean checks it.
import Derived.Test.YtjmbdejejlcklaaDoorPrint0
namespace Go.Proofs.YtjmbdejejlcklaaDoor.Print
open Go.Proofs.YtjmbdejejlcklaaDoor.Aux Go.Proofs.YtjmbdejejlcklaaDoor.Spec
open Go.RowKit Go.Proofs.YtjmbdejejlcklaaDoorW.PrintWords Go.Proofs.YtjmbdejejlcklaaDoorW.PrintLast Go.Proofs.YtjmbdejejlcklaaDoorW.PrintMore
attribute [local go_sem] max2_int min2_int max_two min_two max_three min_three max_four min_four   -- for this text's walks alone
set_option linter.unusedVariables false
set_option linter.unusedSimpArgs false

/-! ### sequiturbase_Size: function 9 -/
mutual
def sequiturbase_Size.l0 : Nat → Int → Int → Int → Int → ByteArray → Int → List (S29) → Option (Int)
 | 0, _, _, _, _, _, _, _ => none
 | k + 1, x1, x5, x6, x102000, x102001, x102002, x102003 => if x6 < (x102003.length : Int) then (if x5 ≤ x1 then (if 0 ≤ x6 then ((sequiturbase_Size.f k ((rd_T29 x102003 x6).f0) ((rd_T29 x102003 x6).f1) ((rd_T29 x102003 x6).f2) ((rd_T29 x102003 x6).f3) (wrap64 (x1 - x5))).bind fun t103 => (sequiturbase_Size.l0 k x1 (wrap64 (x5 + t103)) (wrap64 (x6 + 1)) x102000 x102001 x102002 x102003)) else (none)) else (some x5)) else (some x5)
def sequiturbase_Size.f : Nat → Int → ByteArray → Int → List (S29) → Int → Option (Int)
 | 0, _, _, _, _, _ => none
 | k + 1, a0_0, a0_1, a0_2, l0_3, a1 => sequiturbase_Size.l0 k a1 1 0 a0_0 a0_1 a0_2 l0_3
end
theorem sequiturbase_Size.mono_l : ∀ k, (∀ y0 y1 y2 y3 y4, LeO (sequiturbase_Size.f k y0 y1 y2 y3 y4) (sequiturbase_Size.f (k + 1) y0 y1 y2 y3 y4)) ∧ (∀ y0 y1 y2 y3 y4 y5 y6, LeO (sequiturbase_Size.l0 k y0 y1 y2 y3 y4 y5 y6) (sequiturbase_Size.l0 (k + 1) y0 y1 y2 y3 y4 y5 y6))
 | 0 => ⟨fun _ _ _ _ _ r h => by simp [sequiturbase_Size.f] at h, fun _ _ _ _ _ _ _ r h => by simp [sequiturbase_Size.l0] at h⟩
 | k + 1 => by
  obtain ⟨ih0, ih1⟩ := sequiturbase_Size.mono_l k
  refine ⟨?_, ?_⟩
  ·
   intro y0 y1 y2 y3 y4
   unfold sequiturbase_Size.f
   repeat' first
   | (with_reducible exact ih0 _ _ _ _ _)
   | (with_reducible exact ih1 _ _ _ _ _ _ _)
   | (with_reducible exact LeO.refl _)
   | (with_reducible exact LeO.none _)
   | (with_reducible refine LeO.ite ?_ ?_)
   | (with_reducible refine LeO.bind ?_ (fun _ => ?_))
   | exact ih0 _ _ _ _ _
   | exact ih1 _ _ _ _ _ _ _
   | exact LeO.none _
   | refine LeO.ite ?_ ?_
   | refine LeO.bind ?_ (fun _ => ?_)
  ·
   intro y0 y1 y2 y3 y4 y5 y6
   unfold sequiturbase_Size.l0
   repeat' first
   | (with_reducible exact ih0 _ _ _ _ _)
   | (with_reducible exact ih1 _ _ _ _ _ _ _)
   | (with_reducible exact LeO.refl _)
   | (with_reducible exact LeO.none _)
   | (with_reducible refine LeO.ite ?_ ?_)
   | (with_reducible refine LeO.bind ?_ (fun _ => ?_))
   | exact ih0 _ _ _ _ _
   | exact ih1 _ _ _ _ _ _ _
   | exact LeO.none _
   | refine LeO.ite ?_ ?_
   | refine LeO.bind ?_ (fun _ => ?_)
theorem sequiturbase_Size.mono : ∀ a0 a1 a2 a3 a4 k, LeO (sequiturbase_Size.f k a0 a1 a2 a3 a4) (sequiturbase_Size.f (k + 1) a0 a1 a2 a3 a4) := by
 intro a0 a1 a2 a3 a4 k
 obtain ⟨ih0, ih1⟩ := sequiturbase_Size.mono_l k
 exact ih0 a0 a1 a2 a3 a4
set_option maxHeartbeats 8000000 in
set_option maxRecDepth 100000 in
theorem sequiturbase_Size.calls (k : Nat) : ∀ (a0_0 : Int) (a0_1 : ByteArray) (a0_2 : Int) (A0_3 : Option Addr) (c0_3 : Nat) (l0_3 : List (S29)) (a1 : Int) (r : Int) (w : World) (hr0_3 : Kd.C k29 w A0_3 l0_3.length l0_3) (hc0_3 : l0_3.length ≤ c0_3) (h : sequiturbase_Size.f k a0_0 a0_1 a0_2 l0_3 a1 = some r),
  Calls Tryd.prog 9 #[.agg #[.int .i64 a0_0, .string a0_1, .int .i64 a0_2, .slice A0_3 l0_3.length c0_3], .int .i64 a1] w fun e w' => e = .returned (.int .i64 r) ∧ Below w.heap.size w w' := by
 induction k using Nat.strongRecOn with
 | _ k ih =>
 intro a0_0 a0_1 a0_2 A0_3 c0_3 l0_3 a1 r w hr0_3 hc0_3 h
 cases k with
 | zero => exact absurd h (by simp [sequiturbase_Size.f])
 | succ k =>
 simp only [sequiturbase_Size.f] at h
 have hu29 := Tryd.underlying29
 have HR0_3 := Aside0.mk hr0_3
 have HC0_3 := Aside0.mk hc0_3
 clear hr0_3 hc0_3
 have HB := Aside0.mk (Below.refl w.heap.size w)
 have H : (sequiturbase_Size.l0 k a1 1 0 a0_0 a0_1 a0_2 l0_3) = some r := h
 clear h
 have H' := Aside0.mk H
 clear H
 go_enter Tryd.func9, Tryd.ntmps9
 go_wp2_with (first | ((with_reducible refine gate_dst (N := 2) rfl ?_); refine box_event ?hg (N := 2) ?hd (cs := #[.int .i64 a0_0, .string a0_1, .int .i64 a0_2, .slice A0_3 l0_3.length c0_3]) (t := 29) ?hr ?_; (case hd => rfl); (case hg => rfl); (case hr => first | (go_simp; done) | (go_simp; rfl)); intro gb101 hg w3 hbox hb; have n0_ := Aside0.mk (below_step (by repeat (first | (with_reducible first | exact HB.out | apply below_alloc | apply pw_below_drewN | apply below_drew1) | exact HB.out)) hb); have n1_ := Aside0.mk (hbox); have n2_ := Aside0.mk ((by rw [hg]; exact (below_size (by repeat (first | (with_reducible first | exact HB.out | apply below_alloc | apply pw_below_drewN | apply below_drew1) | exact HB.out))) : w.heap.size ≤ gb101)); have n3_ := Aside0.mk ((by rw [hg]; exact (below_size (by repeat (first | (with_reducible first | exact HB.out | apply below_alloc | apply pw_below_drewN | apply below_drew1) | exact HB.out))) : w.heap.size ≤ gb101)); clear HB; have HB := n0_; have BK101 := n1_; have GW101 := n2_; have GE101 := n3_; clear n0_ n1_ n2_ n3_; clear hb hbox hg))
 go_loopg [5, 6] k (fun kq v5 v6 w' => ∃ (x5_1 : Int) (x6_1 : Int), v5 = .int .i64 x5_1 ∧ v6 = .int .i64 x6_1 ∧ Aside0 (sequiturbase_Size.l0 kq a1 x5_1 x6_1 a0_0 a0_1 a0_2 l0_3 = some r) ∧ Aside0 (kq ≤ k) ∧ Aside0 (w'.heap[gb101]? = some (.cells #[.int .i64 a0_0, .string a0_1, .int .i64 a0_2, (.slice A0_3 l0_3.length c0_3)] 29 (0, 0))) ∧ Aside0 (Below w.heap.size w w'))
 case atStart => exact ⟨(1), (0), (by first | rfl | (simp; done) | (simp [*]; done)), (by first | rfl | (simp; done) | (simp [*]; done)), H', ⟨Nat.le_refl _⟩, ⟨by (with_reducible repeat (first | refine blk_drewN ?_ _ | refine blk_drew ?_ | refine blk_alloc ?_ _)); exact BK101.out⟩, ⟨by repeat (first | (with_reducible first | exact HB.out | apply below_alloc | apply pw_below_drewN | apply below_drew1 | refine below_set ?_ GE101.out) | exact HB.out)⟩⟩
 case round =>
  clear H'
  try clear p2
  obtain ⟨x5_1, x6_1, rfl, rfl, HA, HK1, BK101, HB⟩ := hrel
  cases gk with
  | zero => exact absurd HA.out (by simp [sequiturbase_Size.l0])
  | succ k1 =>
   have H := HA.out
   clear HA
   simp only [sequiturbase_Size.l0] at H
   by_cases c4 : x6_1 < (l0_3.length : Int)
   ·
    rw [if_pos c4] at H
    have c4b0 : decide (x6_1 < (l0_3.length : Int)) = true := decide_eq_true c4
    clear c4
    by_cases c5 : x5_1 ≤ a1
    ·
     rw [if_pos c5] at H
     have c5b0 : decide (x5_1 ≤ a1) = true := decide_eq_true c5
     clear c5
     by_cases c6 : 0 ≤ x6_1
     ·
      rw [if_pos c6] at H
      have c6b0 : decide (0 ≤ x6_1) = true := decide_eq_true c6
      clear c6
      replace H := Option.bind_eq_some_iff.mp H
      obtain ⟨t103, A70, H⟩ := H
      replace H : (sequiturbase_Size.l0 k1 a1 (wrap64 (x5_1 + t103)) (wrap64 (x6_1 + 1)) a0_0 a0_1 a0_2 l0_3) = some r := H
      have A7 := Aside0.mk A70
      clear A70
      have H' := Aside0.mk H
      clear H
      have hcz8_0 : wr.cell? ⟨gb101, 0, none⟩ = some (.int .i64 a0_0) := (blk_cell BK101.out 0).trans rfl
      have hcz8_1 : wr.cell? ⟨gb101, 1, none⟩ = some (.string a0_1) := (blk_cell BK101.out 1).trans rfl
      have hcz8_2 : wr.cell? ⟨gb101, 2, none⟩ = some (.int .i64 a0_2) := (blk_cell BK101.out 2).trans rfl
      have hcz8_3 : wr.cell? ⟨gb101, 3, none⟩ = some (.slice A0_3 l0_3.length c0_3) := (blk_cell BK101.out 3).trans rfl
      have hfz8_0 := blk_frozen BK101.out 0
      have hfz8_1 := blk_frozen BK101.out 1
      have hfz8_2 := blk_frozen BK101.out 2
      have hfz8_3 := blk_frozen BK101.out 3
      have p102 : 0 ≤ (x6_1 : Int) := of_decide_eq_true (by first | (with_reducible assumption) | assumption)
      have q102 : x6_1 < (l0_3.length : Int) := of_decide_eq_true (by first | (with_reducible assumption) | assumption)
      obtain ⟨ad102, A102_3, c102_3, e102, hx102_0, hx102_1, hx102_2, hx102_3, hl102_3, hi102_3⟩ := at_T29 HR0_3.out x6_1 p102 q102
      cases e102
      replace hx102_0 := (HB.out.cell (World.block_lt_of_cell? w _ hx102_0)).trans hx102_0
      replace hx102_1 := (HB.out.cell (World.block_lt_of_cell? w _ hx102_1)).trans hx102_1
      replace hx102_2 := (HB.out.cell (World.block_lt_of_cell? w _ hx102_2)).trans hx102_2
      replace hx102_3 := (HB.out.cell (World.block_lt_of_cell? w _ hx102_3)).trans hx102_3
      have HR102_3 := Aside0.mk hi102_3
      have HC102_3 := Aside0.mk hl102_3
      clear hi102_3 hl102_3
      replace p102 := eq_true p102
      replace q102 := eq_true q102
      go_wp2_with (first | ((with_reducible refine gate_callee (f := 9) rfl ?_); refine goesL_ (some 28) rfl rfl Tryd.func9 (by kernel_rfl) rfl #[.agg #[.int .i64 ((rd_T29 l0_3 x6_1).f0), .string ((rd_T29 l0_3 x6_1).f1), .int .i64 ((rd_T29 l0_3 x6_1).f2), .slice A102_3 ((rd_T29 l0_3 x6_1).f3).length c102_3], .int .i64 (wrap64 (a1 - x5_1))] rfl (by (try simp only [List.map_toArray, List.map_cons, List.map_nil]); first | done | rfl | (simp only [List.length_drop, List.length_take]; rfl)) ?_; (with_reducible refine (ih k1 (by have := HK1.out; omega) ((rd_T29 l0_3 x6_1).f0) ((rd_T29 l0_3 x6_1).f1) ((rd_T29 l0_3 x6_1).f2) _ _ ((rd_T29 l0_3 x6_1).f3) (wrap64 (a1 - x5_1)) t103 _ ?side1 ?side2 A7.out).mono ?_); (case side1 => repeat (first | exact (Kd.C_below HR102_3.out HB.out) | (with_reducible refine Kd.C_alloc ?_ _) | (with_reducible refine Kd.C_drewN ?_ _) | (with_reducible refine Kd.C_drew ?_))); (case side2 => exact HC102_3.out); (try clear A7); rintro e w9 ⟨rfl, hb⟩; refine ⟨_, rfl, ?_⟩; have n0_ := Aside0.mk (blk_below (g := gb101) (o := .cells #[.int .i64 a0_0, .string a0_1, .int .i64 a0_2, .slice (some ad102) l0_3.length c0_3] 29 (0, 0)) (by (with_reducible repeat (first | refine blk_drewN ?_ _ | refine blk_drew ?_ | refine blk_alloc ?_ _)); exact BK101.out) hb); have n1_ := Aside0.mk (below_step (by repeat (first | (with_reducible first | exact HB.out | apply below_alloc | apply pw_below_drewN | apply below_drew1 | refine below_set ?_ GE101.out) | exact HB.out)) hb); clear BK101; clear HB; have BK101 := n0_; have HB := n1_; clear n0_ n1_; (try clear hb); (try clear hb2); (try clear hk); (try clear hi)))
      go_roundg k1
      case measure => have := HK1.out; omega
      case rel => exact ⟨(wrap64 (x5_1 + t103)), (wrap64 (x6_1 + 1)), (by first | rfl | (simp; done) | (simp [*]; done)), (by first | rfl | (simp; done) | (simp [*]; done)), H', ⟨by have := HK1.out; omega⟩, ⟨by (with_reducible repeat (first | refine blk_drewN ?_ _ | refine blk_drew ?_ | refine blk_alloc ?_ _)); exact BK101.out⟩, ⟨by repeat (first | (with_reducible first | exact HB.out | apply below_alloc | apply pw_below_drewN | apply below_drew1 | refine below_set ?_ GE101.out) | exact HB.out)⟩⟩
     ·
      rw [if_neg c6] at H
      exact absurd H (by simp)
    ·
     rw [if_neg c5] at H
     have c5b0 : decide (x5_1 ≤ a1) = false := decide_eq_false c5
     clear c5
     obtain rfl := Option.some.inj H
     have hcz10_0 : wr.cell? ⟨gb101, 0, none⟩ = some (.int .i64 a0_0) := (blk_cell BK101.out 0).trans rfl
     have hcz10_1 : wr.cell? ⟨gb101, 1, none⟩ = some (.string a0_1) := (blk_cell BK101.out 1).trans rfl
     have hcz10_2 : wr.cell? ⟨gb101, 2, none⟩ = some (.int .i64 a0_2) := (blk_cell BK101.out 2).trans rfl
     have hcz10_3 : wr.cell? ⟨gb101, 3, none⟩ = some (.slice A0_3 l0_3.length c0_3) := (blk_cell BK101.out 3).trans rfl
     have hfz10_0 := blk_frozen BK101.out 0
     have hfz10_1 := blk_frozen BK101.out 1
     have hfz10_2 := blk_frozen BK101.out 2
     have hfz10_3 := blk_frozen BK101.out 3
     go_wp2
     go_ret
     exact ⟨by first | rfl | (simp [errW_none, errW_some] <;> rfl) | (simp [*, errW_none, errW_some] <;> rfl), by repeat (first | (with_reducible first | exact HB.out | apply below_alloc | apply pw_below_drewN | apply below_drew1 | refine below_set ?_ GE101.out) | exact HB.out)⟩
   ·
    rw [if_neg c4] at H
    have c4b0 : decide (x6_1 < (l0_3.length : Int)) = false := decide_eq_false c4
    clear c4
    obtain rfl := Option.some.inj H
    have hcz11_0 : wr.cell? ⟨gb101, 0, none⟩ = some (.int .i64 a0_0) := (blk_cell BK101.out 0).trans rfl
    have hcz11_1 : wr.cell? ⟨gb101, 1, none⟩ = some (.string a0_1) := (blk_cell BK101.out 1).trans rfl
    have hcz11_2 : wr.cell? ⟨gb101, 2, none⟩ = some (.int .i64 a0_2) := (blk_cell BK101.out 2).trans rfl
    have hcz11_3 : wr.cell? ⟨gb101, 3, none⟩ = some (.slice A0_3 l0_3.length c0_3) := (blk_cell BK101.out 3).trans rfl
    have hfz11_0 := blk_frozen BK101.out 0
    have hfz11_1 := blk_frozen BK101.out 1
    have hfz11_2 := blk_frozen BK101.out 2
    have hfz11_3 := blk_frozen BK101.out 3
    go_wp2
    go_ret
    exact ⟨by first | rfl | (simp [errW_none, errW_some] <;> rfl) | (simp [*, errW_none, errW_some] <;> rfl), by repeat (first | (with_reducible first | exact HB.out | apply below_alloc | apply pw_below_drewN | apply below_drew1 | refine below_set ?_ GE101.out) | exact HB.out)⟩

/-! ### sequiturlaw13_Few: function 10 -/
def sequiturlaw13_Few.l0 : Nat → Int → Int → List ByteArray → List (S63) → Option (Bool)
 | 0, _, _, _, _ => none
 | k + 1, x5, x6, x105000, x105001 => if x6 < (x105001.length : Int) then (if x5 ≤ 400 then (if 0 ≤ x6 then (sequiturlaw13_Few.l0 k (wrap64 (x5 + (((rd_T63 x105001 x6).f1).length : Int))) (wrap64 (x6 + 1)) x105000 x105001) else (none)) else (some (decide (x5 ≤ 400)))) else (some (decide (x5 ≤ 400)))
def sequiturlaw13_Few.f (k : Nat) (l0_0 : List ByteArray) (l0_1 : List (S63)) (l1 : List (S65)) : Option (Bool) := sequiturlaw13_Few.l0 k (wrap64 ((wrap64 ((l0_0.length : Int) + (l0_1.length : Int))) + (l1.length : Int))) 0 l0_0 l0_1
theorem sequiturlaw13_Few.mono_l : ∀ k, (∀ y0 y1 y2 y3, LeO (sequiturlaw13_Few.l0 k y0 y1 y2 y3) (sequiturlaw13_Few.l0 (k + 1) y0 y1 y2 y3))
 | 0 => fun _ _ _ _ r h => by simp [sequiturlaw13_Few.l0] at h
 | k + 1 => by
  have ih0 := sequiturlaw13_Few.mono_l k
  ·
   intro y0 y1 y2 y3
   unfold sequiturlaw13_Few.l0
   repeat' first
   | (with_reducible exact ih0 _ _ _ _)
   | (with_reducible exact LeO.refl _)
   | (with_reducible exact LeO.none _)
   | (with_reducible refine LeO.ite ?_ ?_)
   | (with_reducible refine LeO.bind ?_ (fun _ => ?_))
   | exact ih0 _ _ _ _
   | exact LeO.none _
   | refine LeO.ite ?_ ?_
   | refine LeO.bind ?_ (fun _ => ?_)
theorem sequiturlaw13_Few.mono : ∀ a0 a1 a2 k, LeO (sequiturlaw13_Few.f k a0 a1 a2) (sequiturlaw13_Few.f (k + 1) a0 a1 a2) := by
 intro a0 a1 a2 k
 have ih0 := sequiturlaw13_Few.mono_l k
 unfold sequiturlaw13_Few.f
 repeat' first
   | (with_reducible exact ih0 _ _ _ _)
   | (with_reducible exact LeO.refl _)
   | (with_reducible exact LeO.none _)
   | (with_reducible refine LeO.ite ?_ ?_)
   | (with_reducible refine LeO.bind ?_ (fun _ => ?_))
   | exact ih0 _ _ _ _
   | exact LeO.none _
   | refine LeO.ite ?_ ?_
   | refine LeO.bind ?_ (fun _ => ?_)
set_option maxHeartbeats 8000000 in
set_option maxRecDepth 100000 in
theorem sequiturlaw13_Few.calls (k : Nat) (A0_0 : Option Addr) (c0_0 : Nat) (l0_0 : List ByteArray) (A0_1 : Option Addr) (c0_1 : Nat) (l0_1 : List (S63)) (A1 : Option Addr) (c1 : Nat) (l1 : List (S65)) (r : Bool) (w : World) (hr0_0 : Kd.C Kd.string w A0_0 l0_0.length l0_0) (hc0_0 : l0_0.length ≤ c0_0) (hr0_1 : Kd.C k63 w A0_1 l0_1.length l0_1) (hc0_1 : l0_1.length ≤ c0_1) (hr1 : Kd.C k65 w A1 l1.length l1) (hc1 : l1.length ≤ c1) (h : sequiturlaw13_Few.f k l0_0 l0_1 l1 = some r) :
  Calls Tryd.prog 10 #[.agg #[.slice A0_0 l0_0.length c0_0, .slice A0_1 l0_1.length c0_1], .slice A1 l1.length c1] w fun e w' => e = .returned (.bool r) ∧ Below w.heap.size w w' := by
 have hu25 := Tryd.underlying25
 have HR0_0 := Aside0.mk hr0_0
 have HC0_0 := Aside0.mk hc0_0
 clear hr0_0 hc0_0
 have HR0_1 := Aside0.mk hr0_1
 have HC0_1 := Aside0.mk hc0_1
 clear hr0_1 hc0_1
 have HR1 := Aside0.mk hr1
 have HC1 := Aside0.mk hc1
 clear hr1 hc1
 have HB := Aside0.mk (Below.refl w.heap.size w)
 have H : (sequiturlaw13_Few.l0 k (wrap64 ((wrap64 ((l0_0.length : Int) + (l0_1.length : Int))) + (l1.length : Int))) 0 l0_0 l0_1) = some r := h
 clear h
 have H' := Aside0.mk H
 clear H
 go_enter Tryd.func10, Tryd.ntmps10
 go_wp2_with (first | ((with_reducible refine gate_dst (N := 2) rfl ?_); refine box_event ?hg (N := 2) ?hd (cs := #[.slice A0_0 l0_0.length c0_0, .slice A0_1 l0_1.length c0_1]) (t := 25) ?hr ?_; (case hd => rfl); (case hg => rfl); (case hr => first | (go_simp; done) | (go_simp; rfl)); intro gb104 hg w3 hbox hb; have n0_ := Aside0.mk (below_step (by repeat (first | (with_reducible first | exact HB.out | apply below_alloc | apply pw_below_drewN | apply below_drew1) | exact HB.out)) hb); have n1_ := Aside0.mk (hbox); have n2_ := Aside0.mk ((by rw [hg]; exact (below_size (by repeat (first | (with_reducible first | exact HB.out | apply below_alloc | apply pw_below_drewN | apply below_drew1) | exact HB.out))) : w.heap.size ≤ gb104)); have n3_ := Aside0.mk ((by rw [hg]; exact (below_size (by repeat (first | (with_reducible first | exact HB.out | apply below_alloc | apply pw_below_drewN | apply below_drew1) | exact HB.out))) : w.heap.size ≤ gb104)); clear HB; have HB := n0_; have BK104 := n1_; have GW104 := n2_; have GE104 := n3_; clear n0_ n1_ n2_ n3_; clear hb hbox hg; have hcz4_0 : w3.cell? ⟨gb104, 0, none⟩ = some (.slice A0_0 l0_0.length c0_0) := (blk_cell BK104.out 0).trans rfl; have hcz4_1 : w3.cell? ⟨gb104, 1, none⟩ = some (.slice A0_1 l0_1.length c0_1) := (blk_cell BK104.out 1).trans rfl; have hfz4_0 := blk_frozen BK104.out 0; have hfz4_1 := blk_frozen BK104.out 1))
 go_loopg [5, 6] k (fun kq v5 v6 w' => ∃ (x5_1 : Int) (x6_1 : Int), v5 = .int .i64 x5_1 ∧ v6 = .int .i64 x6_1 ∧ Aside0 (sequiturlaw13_Few.l0 kq x5_1 x6_1 l0_0 l0_1 = some r) ∧ Aside0 (kq ≤ k) ∧ Aside0 (w'.heap[gb104]? = some (.cells #[(.slice A0_0 l0_0.length c0_0), (.slice A0_1 l0_1.length c0_1)] 25 (0, 0))) ∧ Aside0 (Below w.heap.size w w'))
 case atStart => exact ⟨(wrap64 ((wrap64 ((l0_0.length : Int) + (l0_1.length : Int))) + (l1.length : Int))), (0), (by first | rfl | (simp; done) | (simp [*]; done)), (by first | rfl | (simp; done) | (simp [*]; done)), H', ⟨Nat.le_refl _⟩, ⟨by (with_reducible repeat (first | refine blk_drewN ?_ _ | refine blk_drew ?_ | refine blk_alloc ?_ _)); exact BK104.out⟩, ⟨by repeat (first | (with_reducible first | exact HB.out | apply below_alloc | apply pw_below_drewN | apply below_drew1 | refine below_set ?_ GE104.out) | exact HB.out)⟩⟩
 case round =>
  clear H'
  try clear c1
  try clear p2
  try clear hcz4_0
  try clear hcz4_1
  try clear hfz4_0
  try clear hfz4_1
  obtain ⟨x5_1, x6_1, rfl, rfl, HA, HK1, BK104, HB⟩ := hrel
  cases gk with
  | zero => exact absurd HA.out (by simp [sequiturlaw13_Few.l0])
  | succ k1 =>
   have H := HA.out
   clear HA
   simp only [sequiturlaw13_Few.l0] at H
   by_cases c5 : x6_1 < (l0_1.length : Int)
   ·
    rw [if_pos c5] at H
    have c5b0 : decide (x6_1 < (l0_1.length : Int)) = true := decide_eq_true c5
    clear c5
    by_cases c6 : x5_1 ≤ 400
    ·
     rw [if_pos c6] at H
     have c6b0 : decide (x5_1 ≤ 400) = true := decide_eq_true c6
     clear c6
     by_cases c7 : 0 ≤ x6_1
     ·
      rw [if_pos c7] at H
      have c7b0 : decide (0 ≤ x6_1) = true := decide_eq_true c7
      clear c7
      have H' := Aside0.mk H
      clear H
      have hcz8_0 : wr.cell? ⟨gb104, 0, none⟩ = some (.slice A0_0 l0_0.length c0_0) := (blk_cell BK104.out 0).trans rfl
      have hcz8_1 : wr.cell? ⟨gb104, 1, none⟩ = some (.slice A0_1 l0_1.length c0_1) := (blk_cell BK104.out 1).trans rfl
      have hfz8_0 := blk_frozen BK104.out 0
      have hfz8_1 := blk_frozen BK104.out 1
      have p105 : 0 ≤ (x6_1 : Int) := of_decide_eq_true (by first | (with_reducible assumption) | assumption)
      have q105 : x6_1 < (l0_1.length : Int) := of_decide_eq_true (by first | (with_reducible assumption) | assumption)
      obtain ⟨ad105, A105_1, c105_1, e105, hx105_0, hx105_1, hx105_2, hl105_1, hi105_1⟩ := at_T63 HR0_1.out x6_1 p105 q105
      cases e105
      replace hx105_0 := (HB.out.cell (World.block_lt_of_cell? w _ hx105_0)).trans hx105_0
      replace hx105_1 := (HB.out.cell (World.block_lt_of_cell? w _ hx105_1)).trans hx105_1
      replace hx105_2 := (HB.out.cell (World.block_lt_of_cell? w _ hx105_2)).trans hx105_2
      have HR105_1 := Aside0.mk hi105_1
      have HC105_1 := Aside0.mk hl105_1
      clear hi105_1 hl105_1
      replace p105 := eq_true p105
      replace q105 := eq_true q105
      go_wp2
      go_roundg k1
      case measure => have := HK1.out; omega
      case rel => exact ⟨(wrap64 (x5_1 + (((rd_T63 l0_1 x6_1).f1).length : Int))), (wrap64 (x6_1 + 1)), (by first | rfl | (simp; done) | (simp [*]; done)), (by first | rfl | (simp; done) | (simp [*]; done)), H', ⟨by have := HK1.out; omega⟩, ⟨by (with_reducible repeat (first | refine blk_drewN ?_ _ | refine blk_drew ?_ | refine blk_alloc ?_ _)); exact BK104.out⟩, ⟨by repeat (first | (with_reducible first | exact HB.out | apply below_alloc | apply pw_below_drewN | apply below_drew1 | refine below_set ?_ GE104.out) | exact HB.out)⟩⟩
     ·
      rw [if_neg c7] at H
      exact absurd H (by simp)
    ·
     rw [if_neg c6] at H
     have c6b0 : decide (x5_1 ≤ 400) = false := decide_eq_false c6
     clear c6
     obtain rfl := Option.some.inj H
     have hcz9_0 : wr.cell? ⟨gb104, 0, none⟩ = some (.slice A0_0 l0_0.length c0_0) := (blk_cell BK104.out 0).trans rfl
     have hcz9_1 : wr.cell? ⟨gb104, 1, none⟩ = some (.slice A0_1 l0_1.length c0_1) := (blk_cell BK104.out 1).trans rfl
     have hfz9_0 := blk_frozen BK104.out 0
     have hfz9_1 := blk_frozen BK104.out 1
     go_wp2
     go_ret
     exact ⟨by first | rfl | (simp [errW_none, errW_some] <;> rfl) | (simp [*, errW_none, errW_some] <;> rfl), by repeat (first | (with_reducible first | exact HB.out | apply below_alloc | apply pw_below_drewN | apply below_drew1 | refine below_set ?_ GE104.out) | exact HB.out)⟩
   ·
    rw [if_neg c5] at H
    have c5b0 : decide (x6_1 < (l0_1.length : Int)) = false := decide_eq_false c5
    clear c5
    obtain rfl := Option.some.inj H
    have hcz10_0 : wr.cell? ⟨gb104, 0, none⟩ = some (.slice A0_0 l0_0.length c0_0) := (blk_cell BK104.out 0).trans rfl
    have hcz10_1 : wr.cell? ⟨gb104, 1, none⟩ = some (.slice A0_1 l0_1.length c0_1) := (blk_cell BK104.out 1).trans rfl
    have hfz10_0 := blk_frozen BK104.out 0
    have hfz10_1 := blk_frozen BK104.out 1
    go_wp2
    go_ret
    exact ⟨by first | rfl | (simp [errW_none, errW_some] <;> rfl) | (simp [*, errW_none, errW_some] <;> rfl), by repeat (first | (with_reducible first | exact HB.out | apply below_alloc | apply pw_below_drewN | apply below_drew1 | refine below_set ?_ GE104.out) | exact HB.out)⟩

/-! ### term_depth: function 78 -/
mutual
def term_depth.l0 : Nat → Int → Int → List (S29) → Int → Int → Option (Int)
 | 0, _, _, _, _, _ => none
 | k + 1, x1, x5, x11, x12, x13 => if x13 < x12 then (if 0 ≤ x13 then (if x13 < (x11.length : Int) then ((term_depth.f k ((rd_T29 x11 x13).f0) ((rd_T29 x11 x13).f1) ((rd_T29 x11 x13).f2) ((rd_T29 x11 x13).f3) (wrap64 (x1 - 1))).bind fun t109 => (term_depth.l0 k x1 (mx x5 t109) x11 x12 (wrap64 (x13 + 1)))) else (none)) else (none)) else (some (wrap64 (x5 + 1)))
def term_depth.f : Nat → Int → ByteArray → Int → List (S29) → Int → Option (Int)
 | 0, _, _, _, _, _ => none
 | k + 1, a0_0, a0_1, a0_2, l0_3, a1 => if a1 ≤ 1 then (some 1) else (term_depth.l0 k a1 0 l0_3 (l0_3.length : Int) 0)
end
theorem term_depth.mono_l : ∀ k, (∀ y0 y1 y2 y3 y4, LeO (term_depth.f k y0 y1 y2 y3 y4) (term_depth.f (k + 1) y0 y1 y2 y3 y4)) ∧ (∀ y0 y1 y2 y3 y4, LeO (term_depth.l0 k y0 y1 y2 y3 y4) (term_depth.l0 (k + 1) y0 y1 y2 y3 y4))
 | 0 => ⟨fun _ _ _ _ _ r h => by simp [term_depth.f] at h, fun _ _ _ _ _ r h => by simp [term_depth.l0] at h⟩
 | k + 1 => by
  obtain ⟨ih0, ih1⟩ := term_depth.mono_l k
  refine ⟨?_, ?_⟩
  ·
   intro y0 y1 y2 y3 y4
   unfold term_depth.f
   repeat' first
   | (with_reducible exact ih0 _ _ _ _ _)
   | (with_reducible exact ih1 _ _ _ _ _)
   | (with_reducible exact LeO.refl _)
   | (with_reducible exact LeO.none _)
   | (with_reducible refine LeO.ite ?_ ?_)
   | (with_reducible refine LeO.bind ?_ (fun _ => ?_))
   | exact ih0 _ _ _ _ _
   | exact ih1 _ _ _ _ _
   | exact LeO.none _
   | refine LeO.ite ?_ ?_
   | refine LeO.bind ?_ (fun _ => ?_)
  ·
   intro y0 y1 y2 y3 y4
   unfold term_depth.l0
   repeat' first
   | (with_reducible exact ih0 _ _ _ _ _)
   | (with_reducible exact ih1 _ _ _ _ _)
   | (with_reducible exact LeO.refl _)
   | (with_reducible exact LeO.none _)
   | (with_reducible refine LeO.ite ?_ ?_)
   | (with_reducible refine LeO.bind ?_ (fun _ => ?_))
   | exact ih0 _ _ _ _ _
   | exact ih1 _ _ _ _ _
   | exact LeO.none _
   | refine LeO.ite ?_ ?_
   | refine LeO.bind ?_ (fun _ => ?_)
theorem term_depth.mono : ∀ a0 a1 a2 a3 a4 k, LeO (term_depth.f k a0 a1 a2 a3 a4) (term_depth.f (k + 1) a0 a1 a2 a3 a4) := by
 intro a0 a1 a2 a3 a4 k
 obtain ⟨ih0, ih1⟩ := term_depth.mono_l k
 exact ih0 a0 a1 a2 a3 a4
set_option maxHeartbeats 8000000 in
set_option maxRecDepth 100000 in
theorem term_depth.calls (k : Nat) : ∀ (a0_0 : Int) (a0_1 : ByteArray) (a0_2 : Int) (A0_3 : Option Addr) (c0_3 : Nat) (l0_3 : List (S29)) (a1 : Int) (r : Int) (w : World) (hr0_3 : Kd.C k29 w A0_3 l0_3.length l0_3) (hc0_3 : l0_3.length ≤ c0_3) (h : term_depth.f k a0_0 a0_1 a0_2 l0_3 a1 = some r),
  Calls Tryd.prog 78 #[.agg #[.int .i64 a0_0, .string a0_1, .int .i64 a0_2, .slice A0_3 l0_3.length c0_3], .int .i64 a1] w fun e w' => e = .returned (.int .i64 r) ∧ Below w.heap.size w w' := by
 induction k using Nat.strongRecOn with
 | _ k ih =>
 intro a0_0 a0_1 a0_2 A0_3 c0_3 l0_3 a1 r w hr0_3 hc0_3 h
 cases k with
 | zero => exact absurd h (by simp [term_depth.f])
 | succ k =>
 simp only [term_depth.f] at h
 have hu29 := Tryd.underlying29
 have HR0_3 := Aside0.mk hr0_3
 have HC0_3 := Aside0.mk hc0_3
 clear hr0_3 hc0_3
 have HB := Aside0.mk (Below.refl w.heap.size w)
 have H : (if a1 ≤ 1 then (some 1) else (term_depth.l0 k a1 0 l0_3 (l0_3.length : Int) 0)) = some r := h
 clear h
 by_cases c3 : a1 ≤ 1
 ·
  rw [if_pos c3] at H
  have c3b0 : decide (a1 ≤ 1) = true := decide_eq_true c3
  clear c3
  obtain rfl := Option.some.inj H
  go_enter Tryd.func78, Tryd.ntmps78
  go_wp2_with (first | ((with_reducible refine gate_dst (N := 2) rfl ?_); refine box_event ?hg (N := 2) ?hd (cs := #[.int .i64 a0_0, .string a0_1, .int .i64 a0_2, .slice A0_3 l0_3.length c0_3]) (t := 29) ?hr ?_; (case hd => rfl); (case hg => rfl); (case hr => first | (go_simp; done) | (go_simp; rfl)); intro gb106 hg w4 hbox hb; have n0_ := Aside0.mk (below_step (by repeat (first | (with_reducible first | exact HB.out | apply below_alloc | apply pw_below_drewN | apply below_drew1) | exact HB.out)) hb); have n1_ := Aside0.mk (hbox); have n2_ := Aside0.mk ((by rw [hg]; exact (below_size (by repeat (first | (with_reducible first | exact HB.out | apply below_alloc | apply pw_below_drewN | apply below_drew1) | exact HB.out))) : w.heap.size ≤ gb106)); have n3_ := Aside0.mk ((by rw [hg]; exact (below_size (by repeat (first | (with_reducible first | exact HB.out | apply below_alloc | apply pw_below_drewN | apply below_drew1) | exact HB.out))) : w.heap.size ≤ gb106)); clear HB; have HB := n0_; have BK106 := n1_; have GW106 := n2_; have GE106 := n3_; clear n0_ n1_ n2_ n3_; clear hb hbox hg))
  go_ret
  exact ⟨by first | rfl | (simp [errW_none, errW_some] <;> rfl) | (simp [*, errW_none, errW_some] <;> rfl), by repeat (first | (with_reducible first | exact HB.out | apply below_alloc | apply pw_below_drewN | apply below_drew1 | refine below_set ?_ GE106.out) | exact HB.out)⟩
 ·
  rw [if_neg c3] at H
  have c3b0 : decide (a1 ≤ 1) = false := decide_eq_false c3
  clear c3
  have H' := Aside0.mk H
  clear H
  go_enter Tryd.func78, Tryd.ntmps78
  go_wp2_with (first | ((with_reducible refine gate_dst (N := 2) rfl ?_); refine box_event ?hg (N := 2) ?hd (cs := #[.int .i64 a0_0, .string a0_1, .int .i64 a0_2, .slice A0_3 l0_3.length c0_3]) (t := 29) ?hr ?_; (case hd => rfl); (case hg => rfl); (case hr => first | (go_simp; done) | (go_simp; rfl)); intro gb106 hg w5 hbox hb; have n0_ := Aside0.mk (below_step (by repeat (first | (with_reducible first | exact HB.out | apply below_alloc | apply pw_below_drewN | apply below_drew1) | exact HB.out)) hb); have n1_ := Aside0.mk (hbox); have n2_ := Aside0.mk ((by rw [hg]; exact (below_size (by repeat (first | (with_reducible first | exact HB.out | apply below_alloc | apply pw_below_drewN | apply below_drew1) | exact HB.out))) : w.heap.size ≤ gb106)); have n3_ := Aside0.mk ((by rw [hg]; exact (below_size (by repeat (first | (with_reducible first | exact HB.out | apply below_alloc | apply pw_below_drewN | apply below_drew1) | exact HB.out))) : w.heap.size ≤ gb106)); clear HB; have HB := n0_; have BK106 := n1_; have GW106 := n2_; have GE106 := n3_; clear n0_ n1_ n2_ n3_; clear hb hbox hg; have hcz6_0 : w5.cell? ⟨gb106, 0, none⟩ = some (.int .i64 a0_0) := (blk_cell BK106.out 0).trans rfl; have hcz6_1 : w5.cell? ⟨gb106, 1, none⟩ = some (.string a0_1) := (blk_cell BK106.out 1).trans rfl; have hcz6_2 : w5.cell? ⟨gb106, 2, none⟩ = some (.int .i64 a0_2) := (blk_cell BK106.out 2).trans rfl; have hcz6_3 : w5.cell? ⟨gb106, 3, none⟩ = some (.slice A0_3 l0_3.length c0_3) := (blk_cell BK106.out 3).trans rfl; have hfz6_0 := blk_frozen BK106.out 0; have hfz6_1 := blk_frozen BK106.out 1; have hfz6_2 := blk_frozen BK106.out 2; have hfz6_3 := blk_frozen BK106.out 3))
  go_loopg [5, 13] k (fun kq v5 v13 w' => ∃ (x5_1 : Int) (x13_1 : Int), v5 = .int .i64 x5_1 ∧ v13 = .int .i64 x13_1 ∧ Aside0 (term_depth.l0 kq a1 x5_1 l0_3 (l0_3.length : Int) x13_1 = some r) ∧ Aside0 (kq ≤ k) ∧ Aside0 (w'.heap[gb106]? = some (.cells #[.int .i64 a0_0, .string a0_1, .int .i64 a0_2, (.slice A0_3 l0_3.length c0_3)] 29 (0, 0))) ∧ Aside0 (Below w.heap.size w w'))
  case atStart => exact ⟨(0), (0), (by first | rfl | (simp; done) | (simp [*]; done)), (by first | rfl | (simp; done) | (simp [*]; done)), H', ⟨Nat.le_refl _⟩, ⟨by (with_reducible repeat (first | refine blk_drewN ?_ _ | refine blk_drew ?_ | refine blk_alloc ?_ _)); exact BK106.out⟩, ⟨by repeat (first | (with_reducible first | exact HB.out | apply below_alloc | apply pw_below_drewN | apply below_drew1 | refine below_set ?_ GE106.out) | exact HB.out)⟩⟩
  case round =>
   clear H'
   try clear p2
   try clear c3
   try clear c3b0
   try clear hcz6_0
   try clear hcz6_1
   try clear hcz6_2
   try clear hcz6_3
   try clear hfz6_0
   try clear hfz6_1
   try clear hfz6_2
   try clear hfz6_3
   obtain ⟨x5_1, x13_1, rfl, rfl, HA, HK1, BK106, HB⟩ := hrel
   cases gk with
   | zero => exact absurd HA.out (by simp [term_depth.l0])
   | succ k1 =>
    have H := HA.out
    clear HA
    simp only [term_depth.l0] at H
    by_cases c7 : x13_1 < (l0_3.length : Int)
    ·
     rw [if_pos c7] at H
     have c7b0 : decide (x13_1 < (l0_3.length : Int)) = true := decide_eq_true c7
     clear c7
     by_cases c8 : 0 ≤ x13_1
     ·
      rw [if_pos c8] at H
      have c8b0 : decide (0 ≤ x13_1) = true := decide_eq_true c8
      clear c8
      by_cases c9 : x13_1 < (l0_3.length : Int)
      ·
       rw [if_pos c9] at H
       have c9b0 : decide (x13_1 < (l0_3.length : Int)) = true := decide_eq_true c9
       clear c9
       replace H := Option.bind_eq_some_iff.mp H
       obtain ⟨t109, A100, H⟩ := H
       replace H : (term_depth.l0 k1 a1 (mx x5_1 t109) l0_3 (l0_3.length : Int) (wrap64 (x13_1 + 1))) = some r := H
       have A10 := Aside0.mk A100
       clear A100
       obtain ⟨ji11, hji11⟩ : ∃ j_ : Int, (mx x5_1 t109) = j_ := ⟨_, rfl⟩
       replace H : (term_depth.l0 k1 a1 ji11 l0_3 (l0_3.length : Int) (wrap64 (x13_1 + 1))) = some r := by first | (rw [hji11] at H; exact H) | (simp only [hji11] at H ⊢; exact H)
       (try rw [hji11] at A10)
       have hji11_ : (if x5_1 < t109 then t109 else x5_1) = ji11 := hji11
       have H' := Aside0.mk H
       clear H
       have p107 : 0 ≤ (x13_1 : Int) := of_decide_eq_true (by first | (with_reducible assumption) | assumption)
       have q107 : x13_1 < (l0_3.length : Int) := of_decide_eq_true (by first | (with_reducible assumption) | assumption)
       obtain ⟨ad107, A107_3, c107_3, e107, hx107_0, hx107_1, hx107_2, hx107_3, hl107_3, hi107_3⟩ := at_T29 HR0_3.out x13_1 p107 q107
       cases e107
       replace hx107_0 := (HB.out.cell (World.block_lt_of_cell? w _ hx107_0)).trans hx107_0
       replace hx107_1 := (HB.out.cell (World.block_lt_of_cell? w _ hx107_1)).trans hx107_1
       replace hx107_2 := (HB.out.cell (World.block_lt_of_cell? w _ hx107_2)).trans hx107_2
       replace hx107_3 := (HB.out.cell (World.block_lt_of_cell? w _ hx107_3)).trans hx107_3
       have HR107_3 := Aside0.mk hi107_3
       have HC107_3 := Aside0.mk hl107_3
       clear hi107_3 hl107_3
       replace p107 := eq_true p107
       replace q107 := eq_true q107
       go_wp2_with (first | ((with_reducible refine gate_dst (N := 7) rfl ?_); refine box_event ?hg (N := 7) ?hd (cs := #[.int .i64 0, .string (⟨#[]⟩ : ByteArray), .int .i64 0, .slice none 0 0]) (t := 29) ?hr ?_; (case hd => rfl); (case hg => rfl); (case hr => first | (go_simp; done) | (go_simp; rfl)); intro gb108 hg w12 hbox hb; have n0_ := Aside0.mk (blk_below (g := gb106) (o := .cells #[.int .i64 a0_0, .string a0_1, .int .i64 a0_2, .slice (some ad107) l0_3.length c0_3] 29 (0, 0)) (by (with_reducible repeat (first | refine blk_drewN ?_ _ | refine blk_drew ?_ | refine blk_alloc ?_ _)); exact BK106.out) hb); have n1_ := Aside0.mk (below_step (by repeat (first | (with_reducible first | exact HB.out | apply below_alloc | apply pw_below_drewN | apply below_drew1 | refine below_set ?_ GE106.out) | exact HB.out)) hb); have n2_ := Aside0.mk (hbox); have n3_ := Aside0.mk ((by rw [hg]; exact (below_size (by repeat (first | (with_reducible first | exact HB.out | apply below_alloc | apply pw_below_drewN | apply below_drew1 | refine below_set ?_ GE106.out) | exact HB.out))) : w.heap.size ≤ gb108)); have n4_ := Aside0.mk ((by rw [hg]; exact (below_size (by repeat (first | (with_reducible first | exact HB.out | apply below_alloc | apply pw_below_drewN | apply below_drew1 | refine below_set ?_ GE106.out) | exact HB.out))) : w.heap.size ≤ gb108)); have n5_ := Aside0.mk ((by rw [hg]; exact Nat.ne_of_lt (blk_lt (g := gb106) (o := .cells #[.int .i64 a0_0, .string a0_1, .int .i64 a0_2, .slice (some ad107) l0_3.length c0_3] 29 (0, 0)) (by (with_reducible repeat (first | refine blk_drewN ?_ _ | refine blk_drew ?_ | refine blk_alloc ?_ _)); exact BK106.out)) : gb106 ≠ gb108)); have n6_ := Aside0.mk ((by rw [hg]; exact Nat.ne_of_gt (blk_lt (g := gb106) (o := .cells #[.int .i64 a0_0, .string a0_1, .int .i64 a0_2, .slice (some ad107) l0_3.length c0_3] 29 (0, 0)) (by (with_reducible repeat (first | refine blk_drewN ?_ _ | refine blk_drew ?_ | refine blk_alloc ?_ _)); exact BK106.out)) : gb108 ≠ gb106)); clear BK106; clear HB; have BK106 := n0_; have HB := n1_; have BK108 := n2_; have GW108 := n3_; have GE108 := n4_; have NB106_108 := n5_; have NB108_106 := n6_; clear n0_ n1_ n2_ n3_ n4_ n5_ n6_; clear hb hbox hg; have hnb13 := NB108_106.out; have hnc13 := NB106_108.out; have hcz14_0 : w12.cell? ⟨gb108, 0, none⟩ = some (.int .i64 0) := (blk_cell BK108.out 0).trans rfl; have hcz14_1 : w12.cell? ⟨gb108, 1, none⟩ = some (.string (⟨#[]⟩ : ByteArray)) := (blk_cell BK108.out 1).trans rfl; have hcz14_2 : w12.cell? ⟨gb108, 2, none⟩ = some (.int .i64 0) := (blk_cell BK108.out 2).trans rfl; have hcz14_3 : w12.cell? ⟨gb108, 3, none⟩ = some (.slice none 0 0) := (blk_cell BK108.out 3).trans rfl; have hfz14_0 := blk_frozen BK108.out 0; have hfz14_1 := blk_frozen BK108.out 1; have hfz14_2 := blk_frozen BK108.out 2; have hfz14_3 := blk_frozen BK108.out 3) | ((with_reducible refine gate_callee (f := 78) rfl ?_); refine goesL_ (some 21) rfl rfl Tryd.func78 (by kernel_rfl) rfl #[.agg #[.int .i64 ((rd_T29 l0_3 x13_1).f0), .string ((rd_T29 l0_3 x13_1).f1), .int .i64 ((rd_T29 l0_3 x13_1).f2), .slice A107_3 ((rd_T29 l0_3 x13_1).f3).length c107_3], .int .i64 (wrap64 (a1 - 1))] rfl (by (try simp only [List.map_toArray, List.map_cons, List.map_nil]); first | done | rfl | (simp only [List.length_drop, List.length_take]; rfl)) ?_; (with_reducible refine (ih k1 (by have := HK1.out; omega) ((rd_T29 l0_3 x13_1).f0) ((rd_T29 l0_3 x13_1).f1) ((rd_T29 l0_3 x13_1).f2) _ _ ((rd_T29 l0_3 x13_1).f3) (wrap64 (a1 - 1)) t109 _ ?side1 ?side2 A10.out).mono ?_); (case side1 => exact Kd.C_below HR107_3.out (by repeat (first | (with_reducible first | exact HB.out | apply below_alloc | apply pw_below_drewN | apply below_drew1 | refine below_set ?_ GE106.out | refine below_set ?_ GE108.out) | exact HB.out))); (case side2 => exact HC107_3.out); (try clear A10); rintro e w15 ⟨rfl, hb⟩; refine ⟨_, rfl, ?_⟩; have n0_ := Aside0.mk (blk_below (g := gb106) (o := .cells #[.int .i64 a0_0, .string a0_1, .int .i64 a0_2, .slice (some ad107) l0_3.length c0_3] 29 (0, 0)) (by (with_reducible repeat (first | refine blk_drewN ?_ _ | refine blk_drew ?_ | refine blk_alloc ?_ _)); refine blk_far ?_ NB106_108.out _; (with_reducible repeat (first | refine blk_drewN ?_ _ | refine blk_drew ?_ | refine blk_alloc ?_ _)); refine blk_far ?_ NB106_108.out _; (with_reducible repeat (first | refine blk_drewN ?_ _ | refine blk_drew ?_ | refine blk_alloc ?_ _)); refine blk_far ?_ NB106_108.out _; (with_reducible repeat (first | refine blk_drewN ?_ _ | refine blk_drew ?_ | refine blk_alloc ?_ _)); refine blk_far ?_ NB106_108.out _; (with_reducible repeat (first | refine blk_drewN ?_ _ | refine blk_drew ?_ | refine blk_alloc ?_ _)); exact BK106.out) hb); have n1_ := Aside0.mk (blk_below (g := gb108) (o := .cells #[.int .i64 ((rd_T29 l0_3 x13_1).f0), .string ((rd_T29 l0_3 x13_1).f1), .int .i64 ((rd_T29 l0_3 x13_1).f2), .slice A107_3 ((rd_T29 l0_3 x13_1).f3).length c107_3] 29 (0, 0)) (by (with_reducible repeat (first | refine blk_drewN ?_ _ | refine blk_drew ?_ | refine blk_alloc ?_ _)); refine blk_put (cs := #[.int .i64 ((rd_T29 l0_3 x13_1).f0), .string ((rd_T29 l0_3 x13_1).f1), .int .i64 ((rd_T29 l0_3 x13_1).f2), .slice none 0 0]) ?_ 3 _ rfl; (with_reducible repeat (first | refine blk_drewN ?_ _ | refine blk_drew ?_ | refine blk_alloc ?_ _)); refine blk_put (cs := #[.int .i64 ((rd_T29 l0_3 x13_1).f0), .string ((rd_T29 l0_3 x13_1).f1), .int .i64 0, .slice none 0 0]) ?_ 2 _ rfl; (with_reducible repeat (first | refine blk_drewN ?_ _ | refine blk_drew ?_ | refine blk_alloc ?_ _)); refine blk_put (cs := #[.int .i64 ((rd_T29 l0_3 x13_1).f0), .string (⟨#[]⟩ : ByteArray), .int .i64 0, .slice none 0 0]) ?_ 1 _ rfl; (with_reducible repeat (first | refine blk_drewN ?_ _ | refine blk_drew ?_ | refine blk_alloc ?_ _)); refine blk_put (cs := #[.int .i64 0, .string (⟨#[]⟩ : ByteArray), .int .i64 0, .slice none 0 0]) ?_ 0 _ rfl; (with_reducible repeat (first | refine blk_drewN ?_ _ | refine blk_drew ?_ | refine blk_alloc ?_ _)); exact BK108.out) hb); have n2_ := Aside0.mk (below_step (by repeat (first | (with_reducible first | exact HB.out | apply below_alloc | apply pw_below_drewN | apply below_drew1 | refine below_set ?_ GE106.out | refine below_set ?_ GE108.out) | exact HB.out)) hb); clear BK106; clear BK108; clear HB; have BK106 := n0_; have BK108 := n1_; have HB := n2_; clear n0_ n1_ n2_; (try clear hb); (try clear hb2); (try clear hk); (try clear hi)))
       go_roundg k1
       case measure => have := HK1.out; omega
       case rel => exact ⟨(ji11), (wrap64 (x13_1 + 1)), (by first | rfl | (simp; done) | (simp only [← hji11] <;> (first | rfl | simp)) | (simp [*]; done)), (by first | rfl | (simp; done) | (simp [*]; done)), H', ⟨by have := HK1.out; omega⟩, ⟨by (with_reducible repeat (first | refine blk_drewN ?_ _ | refine blk_drew ?_ | refine blk_alloc ?_ _)); exact BK106.out⟩, ⟨by repeat (first | (with_reducible first | exact HB.out | apply below_alloc | apply pw_below_drewN | apply below_drew1 | refine below_set ?_ GE106.out | refine below_set ?_ GE108.out) | exact HB.out)⟩⟩
      ·
       rw [if_neg c9] at H
       exact absurd H (by simp)
     ·
      rw [if_neg c8] at H
      exact absurd H (by simp)
    ·
     rw [if_neg c7] at H
     have c7b0 : decide (x13_1 < (l0_3.length : Int)) = false := decide_eq_false c7
     clear c7
     obtain rfl := Option.some.inj H
     go_wp2
     go_ret
     exact ⟨by first | rfl | (simp [errW_none, errW_some] <;> rfl) | (simp [*, errW_none, errW_some] <;> rfl), by repeat (first | (with_reducible first | exact HB.out | apply below_alloc | apply pw_below_drewN | apply below_drew1 | refine below_set ?_ GE106.out) | exact HB.out)⟩

/-! ### term_Depth: function 44 -/
def term_Depth.f (k : Nat) (a0_0 : Int) (a0_1 : ByteArray) (a0_2 : Int) (l0_3 : List (S29)) : Option (Int) := (term_depth.f k a0_0 a0_1 a0_2 l0_3 65).bind fun t111 => (some t111)
theorem term_Depth.mono : ∀ a0 a1 a2 a3 k, LeO (term_Depth.f k a0 a1 a2 a3) (term_Depth.f (k + 1) a0 a1 a2 a3) := by
 intro a0 a1 a2 a3 k
 unfold term_Depth.f
 repeat' first
   | (with_reducible exact term_depth.mono _ _ _ _ _ _)
   | (with_reducible exact LeO.refl _)
   | (with_reducible exact LeO.none _)
   | (with_reducible refine LeO.ite ?_ ?_)
   | (with_reducible refine LeO.bind ?_ (fun _ => ?_))
   | exact term_depth.mono _ _ _ _ _ _
   | exact LeO.none _
   | refine LeO.ite ?_ ?_
   | refine LeO.bind ?_ (fun _ => ?_)
set_option maxHeartbeats 8000000 in
set_option maxRecDepth 100000 in
theorem term_Depth.calls (k : Nat) (a0_0 : Int) (a0_1 : ByteArray) (a0_2 : Int) (A0_3 : Option Addr) (c0_3 : Nat) (l0_3 : List (S29)) (r : Int) (w : World) (hr0_3 : Kd.C k29 w A0_3 l0_3.length l0_3) (hc0_3 : l0_3.length ≤ c0_3) (h : term_Depth.f k a0_0 a0_1 a0_2 l0_3 = some r) :
  Calls Tryd.prog 44 #[.agg #[.int .i64 a0_0, .string a0_1, .int .i64 a0_2, .slice A0_3 l0_3.length c0_3]] w fun e w' => e = .returned (.int .i64 r) ∧ Below w.heap.size w w' := by
 have hu29 := Tryd.underlying29
 have HR0_3 := Aside0.mk hr0_3
 have HC0_3 := Aside0.mk hc0_3
 clear hr0_3 hc0_3
 have HB := Aside0.mk (Below.refl w.heap.size w)
 have H : ((term_depth.f k a0_0 a0_1 a0_2 l0_3 65).bind fun t111 => (some t111)) = some r := h
 clear h
 replace H := Option.bind_eq_some_iff.mp H
 obtain ⟨t111, A20, H⟩ := H
 replace H : (some t111) = some r := H
 have A2 := Aside0.mk A20
 clear A20
 obtain rfl := Option.some.inj H
 go_enter Tryd.func44, Tryd.ntmps44
 go_wp2_with (first | ((with_reducible refine gate_dst (N := 1) rfl ?_); refine box_event ?hg (N := 1) ?hd (cs := #[.int .i64 a0_0, .string a0_1, .int .i64 a0_2, .slice A0_3 l0_3.length c0_3]) (t := 29) ?hr ?_; (case hd => rfl); (case hg => rfl); (case hr => first | (go_simp; done) | (go_simp; rfl)); intro gb110 hg w3 hbox hb; have n0_ := Aside0.mk (below_step (by repeat (first | (with_reducible first | exact HB.out | apply below_alloc | apply pw_below_drewN | apply below_drew1) | exact HB.out)) hb); have n1_ := Aside0.mk (hbox); have n2_ := Aside0.mk ((by rw [hg]; exact (below_size (by repeat (first | (with_reducible first | exact HB.out | apply below_alloc | apply pw_below_drewN | apply below_drew1) | exact HB.out))) : w.heap.size ≤ gb110)); have n3_ := Aside0.mk ((by rw [hg]; exact (below_size (by repeat (first | (with_reducible first | exact HB.out | apply below_alloc | apply pw_below_drewN | apply below_drew1) | exact HB.out))) : w.heap.size ≤ gb110)); clear HB; have HB := n0_; have BK110 := n1_; have GW110 := n2_; have GE110 := n3_; clear n0_ n1_ n2_ n3_; clear hb hbox hg; have hcz4_0 : w3.cell? ⟨gb110, 0, none⟩ = some (.int .i64 a0_0) := (blk_cell BK110.out 0).trans rfl; have hcz4_1 : w3.cell? ⟨gb110, 1, none⟩ = some (.string a0_1) := (blk_cell BK110.out 1).trans rfl; have hcz4_2 : w3.cell? ⟨gb110, 2, none⟩ = some (.int .i64 a0_2) := (blk_cell BK110.out 2).trans rfl; have hcz4_3 : w3.cell? ⟨gb110, 3, none⟩ = some (.slice A0_3 l0_3.length c0_3) := (blk_cell BK110.out 3).trans rfl; have hfz4_0 := blk_frozen BK110.out 0; have hfz4_1 := blk_frozen BK110.out 1; have hfz4_2 := blk_frozen BK110.out 2; have hfz4_3 := blk_frozen BK110.out 3) | ((with_reducible refine gate_callee (f := 78) rfl ?_); refine goesL_ (some 4) rfl rfl Tryd.func78 (by kernel_rfl) rfl #[.agg #[.int .i64 a0_0, .string a0_1, .int .i64 a0_2, .slice A0_3 l0_3.length c0_3], .int .i64 65] rfl (by (try simp only [List.map_toArray, List.map_cons, List.map_nil]); first | done | rfl | (simp only [List.length_drop, List.length_take]; rfl)) ?_; (with_reducible refine (term_depth.calls k a0_0 a0_1 a0_2 _ _ l0_3 65 t111 _ ?side1 ?side2 A2.out).mono ?_); (case side1 => repeat (first | exact (Kd.C_below HR0_3.out HB.out) | (with_reducible refine Kd.C_alloc ?_ _) | (with_reducible refine Kd.C_drewN ?_ _) | (with_reducible refine Kd.C_drew ?_))); (case side2 => exact HC0_3.out); (try clear A2); rintro e w5 ⟨rfl, hb⟩; refine ⟨_, rfl, ?_⟩; have n0_ := Aside0.mk (blk_below (g := gb110) (o := .cells #[.int .i64 a0_0, .string a0_1, .int .i64 a0_2, .slice A0_3 l0_3.length c0_3] 29 (0, 0)) (by (with_reducible repeat (first | refine blk_drewN ?_ _ | refine blk_drew ?_ | refine blk_alloc ?_ _)); exact BK110.out) hb); have n1_ := Aside0.mk (below_step (by repeat (first | (with_reducible first | exact HB.out | apply below_alloc | apply pw_below_drewN | apply below_drew1 | refine below_set ?_ GE110.out) | exact HB.out)) hb); clear BK110; clear HB; have BK110 := n0_; have HB := n1_; clear n0_ n1_; (try clear hb); (try clear hb2); (try clear hk); (try clear hi)))
 go_ret
 exact ⟨by first | rfl | (simp [errW_none, errW_some] <;> rfl) | (simp [*, errW_none, errW_some] <;> rfl), by repeat (first | (with_reducible first | exact HB.out | apply below_alloc | apply pw_below_drewN | apply below_drew1 | refine below_set ?_ GE110.out) | exact HB.out)⟩

/-! ### term_all: function 46 -/
-- EXT sequitur/term.all; kind=0


/-! ### term_Size: function 45 -/
-- EXT sequitur/term.Size; making=1
section
open Go.Shelf
attribute [local go_sem] Oper.semAt_some
/-- A part of a term, as it stands in memory. -/
structure TP where
 op : Int
 nm : ByteArray
 nu : Int
 A : Option Addr
 n : Nat
 c : Nat
def TP.encs (x : TP) : Array Value := #[.agg #[.int .i64 x.op, .string x.nm, .int .i64 x.nu, .slice x.A x.n x.c]]
def TP.key (x : TP) : Int × ByteArray × Int × Nat := (x.op, x.nm, x.nu, x.n)
mutual
def keysT : S29 → List (Int × ByteArray × Int × Nat)
 | ⟨op, nm, nu, l⟩ => (op, nm, nu, l.length) :: keysL l
def keysL : List S29 → List (Int × ByteArray × Int × Nat)
 | [] => []
 | x :: l => keysT x ++ keysL l
end
theorem keysT_eq (x : S29) : keysT x = (x.f0, x.f1, x.f2, x.f3.length) :: keysL x.f3 := by cases x; rfl
theorem keysL_append (b : List S29) : ∀ l : List S29, keysL (l ++ b) = keysL l ++ keysL b
 | [] => by simp [keysL]
 | y :: l => by rw [List.cons_append, keysL, keysL, keysL_append b l, List.append_assoc]
theorem keysL_snoc (x : S29) (l : List S29) : keysL (l ++ [x]) = keysL l ++ keysT x := by rw [keysL_append, keysL, keysL, List.append_nil]
theorem keysL_take (l : List S29) (i : Nat) (h : i < l.length) : keysL (l.take (i + 1)) = keysL (l.take i) ++ keysT l[i] := by
 rw [List.take_succ_eq_append_getElem h, keysL_snoc]
theorem keysL_pre (l : List S29) (i : Nat) : keysL (l.take i) <+: keysL l := ⟨keysL (l.drop i), by rw [← keysL_append, List.take_append_drop]⟩
theorem RoundIn.any_depth {F : Fence} (hd : F.depth = none) {m m' : Nat} {P : Program} {l : Nat} {f : FuncId} {tmps : Array Value} {assign body : Code} {w : World} {R : Ending → World → Prop}
  (h : RoundIn F m P l f tmps assign body w R) : RoundIn F m' P l f tmps assign body w R := ⟨h.1, fun c cs _ => h.2 c cs (room_none hd _)⟩
theorem YieldAt.any_depth {F : Fence} (hd : F.depth = none) {m : Nat} (m' : Nat) {P : Program} {l : Nat} {args : Array Value} {W : World} {R : Ending → World → Prop} (h : YieldAt F m P l args W R) : YieldAt F m' P l args W R := by
 obtain ⟨fn, tmps, assign, body, hy, hR⟩ := h
 exact ⟨fn, tmps, assign, body, hy, RoundIn.any_depth hd hR⟩
/-- What a round that goes on keeps: whatever lay ahead of the call; of what was laid since the loop began, the cells. -/
def KpW (n₀ n₁ : Nat) (W W' : World) : Prop := Below n₀ W W' ∧ ∀ (k : Nat) (cs : Array Value) (t : TypeId), n₁ ≤ k → W.heap[k]? = some (.cells cs t (0, 0)) → W'.heap[k]? = some (.cells cs t (0, 0))
/-- the facts of a part in a list, in a later world -/
theorem arg_at {w0 W : World} {A : Option Addr} {l : List S29} (h : Kd.C k29 w0 A l.length l) (HB : Below w0.heap.size w0 W) (j : Nat) (hj : j < l.length) :
  ∃ ad A3 c3, A = some ad ∧ W.cell? (ad.add (j * 4)) = some (.int .i64 (l[j]).f0) ∧ W.cell? ⟨(ad.add (j * 4)).block, (ad.add (j * 4)).off + 1, none⟩ = some (.string (l[j]).f1) ∧ W.cell? ⟨(ad.add (j * 4)).block, (ad.add (j * 4)).off + 2, none⟩ = some (.int .i64 (l[j]).f2) ∧ W.cell? ⟨(ad.add (j * 4)).block, (ad.add (j * 4)).off + 3, none⟩ = some (.slice A3 (l[j]).f3.length c3) ∧ (l[j]).f3.length ≤ c3 ∧ Kd.C k29 w0 A3 (l[j]).f3.length (l[j]).f3 := by
 have hrd : rd_T29 l (j : Int) = l[j] := by
  unfold rd_T29
  rw [Int.toNat_natCast, List.getD_eq_getElem?_getD, List.getElem?_eq_getElem hj]; rfl
 obtain ⟨ad, A3, c3, e, h0, h1, h2, h3, hl, hc⟩ := at_T29 h (j : Int) (by omega) (by omega)
 rw [hrd] at h0 h1 h2 h3 hl hc
 rw [Int.toNat_natCast] at h0 h1 h2 h3
 exact ⟨ad, A3, c3, e, (HB.cell (World.block_lt_of_cell? w0 _ h0)).trans h0, (HB.cell (World.block_lt_of_cell? w0 _ h1)).trans h1, (HB.cell (World.block_lt_of_cell? w0 _ h2)).trans h2, (HB.cell (World.block_lt_of_cell? w0 _ h3)).trans h3, hl, hc⟩
theorem grown_alloc {W W1 : World} (h : W.grownBy W1 none) (o : Obj) : W.grownBy (W1.alloc o) none := by
 have h2 := World.grownBy_alloc W1 o none
 exact ⟨h2.os.trans h.os, h2.tape.trans h.tape, h2.output.trans h.output, Nat.le_trans h.size h2.size, fun k hk hn => (h2.block k (Nat.lt_of_lt_of_le hk h.size) hn).trans (h.block k hk hn)⟩
set_option maxRecDepth 100000 in
set_option maxHeartbeats 4000000 in
theorem walkB (F : Fence) (hd : F.depth = none) (h_term_walk : F.fn 80) (hro : F.round = none) (l n₁ N : Nat) (w0 : World) (J Jx : List TP → World → Prop)
  (hJ : ∀ s W W', J s W → W.grownBy W' none → J s W')
  (hY : ∀ m pre (x : TP) W, J pre W → pre.length < N → YieldAt F m Tryd.prog l x.encs W fun e W' =>
   (e = .returned (.bool true) ∧ J (pre ++ [x]) W' ∧ KpW w0.heap.size n₁ W W') ∨ (e = .returned (.bool false) ∧ Jx (pre ++ [x]) W')) (d : Nat) :
  ∀ (x : S29) (n : Nat) (A : Option Addr) (c : Nat) (pre : List TP) (W : World), SizeOf.sizeOf x ≤ d → x.f3.length ≤ c → Kd.C k29 w0 A x.f3.length x.f3 → Below w0.heap.size w0 W → n₁ ≤ W.heap.size → J pre W → pre.length + (keysT x).length ≤ N →
   CallsIn F n Tryd.prog 80 #[.agg #[.int .i64 x.f0, .string x.f1, .int .i64 x.f2, .slice A x.f3.length c], .func (.yield l) #[] #[]] W fun e W' =>
    (e = .returned (.bool true) ∧ ∃ q : List TP, q.map TP.key = keysT x ∧ J (pre ++ q) W' ∧ Below w0.heap.size w0 W' ∧ W.heap.size ≤ W'.heap.size) ∨ (e = .returned (.bool false) ∧ ∃ q : List TP, (q.map TP.key <+: keysT x) ∧ Jx (pre ++ q) W') := by
 induction d with
 | zero => intro x n A c pre W hx; cases x; simp at hx
 | succ d ih =>
  intro x n A c pre W hx hc hC HB hn₁ hJ0 hN
  have hdd : ∀ k : Nat, (F.depth.isSome = true → 1 ≤ k) := fun k h => by rw [hd] at h; cases h
  obtain ⟨xop, xnm, xnu, xl⟩ := x
  rw [keysT_eq] at hN
  dsimp only at hc hC hN ⊢
  simp only [List.length_cons] at hN
  have hg1 : W.grownBy (W.alloc (.cells #[.int .i64 xop, .string xnm, .int .i64 xnu, .slice A xl.length c] 29)) none := World.grownBy_alloc W _ none
  obtain ⟨fn, tmps, assign, body, hy, hR⟩ := hY (n - 1) pre ⟨xop, xnm, xnu, A, xl.length, c⟩ _ (hJ _ _ _ hJ0 hg1) (by omega)
  dsimp only [TP.encs] at hy
  have hxl : xl.length ≤ 9223372036854775807 := hC.2.1
  have HC := Aside0.mk hC
  have HBA := Aside0.mk HB
  have HJ := Aside0.mk hJ
  have HJ0 := Aside0.mk hJ0
  have HG1 := Aside0.mk hg1
  have HYA := Aside0.mk hY
  have IH := Aside0.mk ih
  clear hC HB hJ hJ0 hg1 hY ih
  refine callsIn_of_wp Tryd.func80 rfl h_term_walk ?_ hro
  simp only [Tryd.ntmps80, List.size_toArray, List.length_cons, List.length_nil, Nat.reduceAdd, Nat.reduceSub, Array.replicate_succ, Array.replicate_zero, List.push_toArray, List.append_toArray, List.nil_append, List.cons_append]
  gi_wp2
  refine hR.mono ?_
  clear hR hy
  rintro e W3 (⟨rfl, hJ3, hk3⟩ | ⟨rfl, hx3⟩)
  ·
   have hb3 := hk3.2 _ _ _ hn₁ (blk_new W (.cells #[.int .i64 xop, .string xnm, .int .i64 xnu, .slice A xl.length c] 29))
   have p3 : W3.cell? ⟨W.heap.size, 3, none⟩ = some (.slice A xl.length c) := (blk_cell hb3 3).trans rfl
   have hB3 : Below w0.heap.size w0 W3 := (below_alloc HBA.out _).trans hk3.1
   have hz3 : W.heap.size ≤ W3.heap.size := by have := hk3.1.size; simp at this; omega
   have HJ3 := Aside0.mk hJ3
   have HB3 := Aside0.mk hB3
   clear hJ3 hk3 hb3 hB3
   gi_wp2
   gi_loopw [14] (fun u wr => ∃ (i : Nat) (q : List TP), u = .int .i64 i ∧ i ≤ xl.length ∧ Aside0 (q.map TP.key = (xop, xnm, xnu, xl.length) :: keysL (xl.take i)) ∧ Aside0 (J (pre ++ q) wr) ∧ Aside0 (Below w0.heap.size w0 wr) ∧ W.heap.size ≤ wr.heap.size) (fun u _ => xl.length - (intOf u).toNat)
   case atStart => exact ⟨0, [⟨xop, xnm, xnu, A, xl.length, c⟩], rfl, Nat.zero_le _, ⟨rfl⟩, HJ3, HB3, hz3⟩
   case round =>
    clear HJ3 HB3 p3 hz3
    obtain ⟨i, q, rfl, hi, HQ, HJr, HBr, hzr⟩ := hrel
    by_cases hlt : i < xl.length
    ·
     obtain ⟨ad, A3, c3, rfl, h0, h1, h2, h3, hl3, hc3⟩ := arg_at HC.out HBr.out i hlt
     have hsz : SizeOf.sizeOf xl[i] ≤ d := by
      have := List.sizeOf_lt_of_mem (List.getElem_mem hlt)
      simp at hx
      omega
     have hkt := keysL_take xl i hlt
     have hkp := (keysL_pre xl (i + 1)).length_le
     have hql : q.length = (keysL (xl.take i)).length + 1 := by
      have := congrArg List.length HQ.out
      simpa using this
     rw [hkt, List.length_append] at hkp
     have HKT := Aside0.mk hkt
     have HC3 := Aside0.mk hc3
     clear hkt hc3
     gi_wp2
     refine (IH.out xl[i] (n - 1) A3 c3 (pre ++ q) _ hsz hl3 HC3.out (below_alloc HBr.out _) (by simp; omega) (HJ.out _ _ _ HJr.out (World.grownBy_alloc wr _ none)) (by rw [List.length_append]; omega)).mono ?_
     rintro e W4 (⟨rfl, q2, hq2, hJ4, hB4, hz4⟩ | ⟨rfl, q2, hq2, hx4⟩)
     ·
      have HQ2 := Aside0.mk hq2
      have HJ4 := Aside0.mk hJ4
      have HB4 := Aside0.mk hB4
      clear hq2 hJ4 hB4
      gi_wp2
      go_roundw
      case rel => exact ⟨i + 1, q ++ q2, by go_num, by omega, ⟨by rw [List.map_append, HQ.out, HQ2.out, HKT.out, List.cons_append]⟩, ⟨by rw [← List.append_assoc]; exact HJ4.out⟩, HB4, by rw [World.size_alloc] at hz4; omega⟩
      case measure => simp [intOf]; omega
     ·
      have HQ2 := Aside0.mk hq2
      have HX4 := Aside0.mk hx4
      clear hq2 hx4
      gi_wp2
      go_ret
      refine .inr ⟨rfl, q ++ q2, ?_, by rw [← List.append_assoc]; exact HX4.out⟩
      obtain ⟨r1, hr1⟩ := HQ2.out
      obtain ⟨r2, hr2⟩ := keysL_pre xl (i + 1)
      refine ⟨r1 ++ r2, ?_⟩
      rw [keysT_eq, List.map_append, HQ.out, ← hr2, HKT.out, ← hr1]
      simp
    ·
     obtain rfl : i = xl.length := by omega
     gi_wp2
     go_ret
     refine .inl ⟨rfl, q, ?_, HJr.out, HBr.out, hzr⟩
     rw [HQ.out, List.take_length, keysT_eq]
  ·
   have HX3 := Aside0.mk hx3
   clear hx3
   gi_wp2
   go_ret
   refine .inr ⟨rfl, [⟨xop, xnm, xnu, A, xl.length, c⟩], ?_, HX3.out⟩
   rw [keysT_eq]
   exact ⟨keysL xl, rfl⟩
theorem kpW_t {n₀ n₁ : Nat} {A B C : World} (h : KpW n₀ n₁ A B) (k : KpW n₀ n₁ B C) : KpW n₀ n₁ A C := ⟨h.1.trans k.1, fun i cs t hi hc => k.2 i cs t hi (h.2 i cs t hi hc)⟩
theorem kpW_b {n₀ n₁ : Nat} {w : World} (hn : n₀ ≤ w.heap.size) (W : World) (l : Nat) (o o' : Obj) (hl : w.heap.size ≤ l) (h : W.heap[l]? = some o) (hc : o.isCells = false) (hw : o.isWalk = false) : KpW n₀ n₁ W (W.putObj l o') :=
 ⟨belowK_b hn W l o o' hl h hc hw, fun k cs t hk hcs => by
  refine (World.putObj_heap_other (fun e => ?_)).trans hcs
  subst e
  rw [h] at hcs
  cases hcs
  cases hc⟩
theorem kpW_set {n₀ n₁ b : Nat} (h0 : n₀ ≤ b) (h1 : b < n₁) {W : World} (v : Value) : KpW n₀ n₁ W (W.setCell ⟨b, 0, none⟩ v) :=
 ⟨(Below.refl n₀ W).setCell (p := ⟨b, 0, none⟩) h0 v, fun k cs t hk hc => ((grownBy_setCell' W b v).block k (Array.getElem?_eq_some_iff.1 hc).1 (fun e => by cases e; omega)).trans hc⟩
set_option maxHeartbeats 1000000 in
theorem all_in (F : Fence) (n : Nat) (h_term_all : F.fn 46) (hro : F.round = none) (v : Value) (xop : Int) (xnm : ByteArray) (xnu : Int) (A : Option Addr) (m c : Nat) (w : World) :
  CallsIn F n Tryd.prog 46 #[.agg #[.int .i64 xop, .string xnm, .int .i64 xnu, .slice A m c]] w fun e w' => e = .returned (.func (.func 79) #[] #[.pointer (some ⟨w.heap.size, 0, none⟩)]) ∧ w' = w.alloc (.cells #[.int .i64 xop, .string xnm, .int .i64 xnu, .slice A m c] 29) := by
 refine callsIn_of_wp Tryd.func46 rfl h_term_all ?_ hro
 simp only [Tryd.ntmps46, List.size_toArray, List.length_cons, List.length_nil, Nat.reduceAdd, Nat.reduceSub, Array.replicate_succ, Array.replicate_zero, List.push_toArray, List.append_toArray, List.nil_append, List.cons_append]
 gi_wp2
 go_ret
 exact ⟨rfl, rfl⟩
set_option maxHeartbeats 1000000 in
theorem all1_in (F : Fence) (hd : F.depth = none) (n : Nat) (h_term_all_1 : F.fn 79) (h_term_walk : F.fn 80) (hro : F.round = none) (l Bt n₁ : Nat) (w0 : World) (x : S29) (A : Option Addr) (c : Nat) (J Jx : List TP → World → Prop) (W : World)
  (hJ : ∀ s W W', J s W → W.grownBy W' none → J s W')
  (hY : ∀ pre (x' : TP) W, J pre W → pre.length < (keysT x).length → YieldAt F (n - 1) Tryd.prog l x'.encs W fun e W' =>
   (e = .returned (.bool true) ∧ J (pre ++ [x']) W' ∧ KpW w0.heap.size n₁ W W') ∨ (e = .returned (.bool false) ∧ Jx (pre ++ [x']) W'))
  (hBt : W.heap[Bt]? = some (.cells #[.int .i64 x.f0, .string x.f1, .int .i64 x.f2, .slice A x.f3.length c] 29 (0, 0))) (hl : x.f3.length ≤ c) (hC : Kd.C k29 w0 A x.f3.length x.f3) (HB : Below w0.heap.size w0 W) (hn₁ : n₁ ≤ W.heap.size) (h0 : J [] W) :
  CallsIn F n Tryd.prog 79 #[.func (.yield l) #[] #[], .pointer (some ⟨Bt, 0, none⟩)] W fun e W' => (∃ v, e = .returned v) ∧
   ((∃ ys : List TP, ys.map TP.key = keysT x ∧ J ys W') ∨ (∃ pre : List TP, pre.map TP.key <+: keysT x ∧ Jx pre W')) := by
 have hdd : ∀ k : Nat, (F.depth.isSome = true → 1 ≤ k) := fun k h => by rw [hd] at h; cases h
 have hp := walkB F hd h_term_walk hro l n₁ (keysT x).length w0 J Jx hJ (fun m pre x' W hj hl => YieldAt.any_depth hd m (hY pre x' W hj hl)) (SizeOf.sizeOf x) x (n - 1) A c [] W (Nat.le_refl _) hl hC HB hn₁ h0 (by simp)
 obtain ⟨xop, xnm, xnu, xl⟩ := x
 dsimp only at hBt hp
 have p0 : W.cell? ⟨Bt, 0, none⟩ = some (.int .i64 xop) := (blk_cell hBt 0).trans rfl
 have p1 : W.cell? ⟨Bt, 1, none⟩ = some (.string xnm) := (blk_cell hBt 1).trans rfl
 have p2 : W.cell? ⟨Bt, 2, none⟩ = some (.int .i64 xnu) := (blk_cell hBt 2).trans rfl
 have p3 : W.cell? ⟨Bt, 3, none⟩ = some (.slice A xl.length c) := (blk_cell hBt 3).trans rfl
 have HP := Aside0.mk hp
 clear hp hBt hC HB h0 hJ hY
 refine callsIn_of_wp Tryd.func79 rfl h_term_all_1 ?_ hro
 simp only [Tryd.ntmps79, List.size_toArray, List.length_cons, List.length_nil, Nat.reduceAdd, Nat.reduceSub, Array.replicate_succ, Array.replicate_zero, List.push_toArray, List.append_toArray, List.nil_append, List.cons_append]
 gi_wp2
 refine HP.out.mono ?_
 rintro e W1 (⟨rfl, q, hq, hJ1, _⟩ | ⟨rfl, q, hq, hx⟩)
 ·
  have HQ := Aside0.mk hq
  have HJ1 := Aside0.mk hJ1
  clear hq hJ1
  gi_wp2
  go_end0
  exact ⟨⟨_, rfl⟩, .inl ⟨_, HQ.out, HJ1.out⟩⟩
 ·
  have HQ := Aside0.mk hq
  have HJ1 := Aside0.mk hx
  clear hq hx
  gi_wp2
  go_end0
  exact ⟨⟨_, rfl⟩, .inr ⟨q, HQ.out, HJ1.out⟩⟩
theorem all_stops (F : Fence) (hd : F.depth = none) (n : Nat) (h_term_all_1 : F.fn 79) (h_term_walk : F.fn 80) (hro : F.round = none) (Bt n₁ : Nat) (w0 : World) (x : S29) (A : Option Addr) (c : Nat) (w : World)
  (hBt : w.heap[Bt]? = some (.cells #[.int .i64 x.f0, .string x.f1, .int .i64 x.f2, .slice A x.f3.length c] 29 (0, 0))) (hl : x.f3.length ≤ c) (hC : Kd.C k29 w0 A x.f3.length x.f3) (HB : Below w0.heap.size w0 w) (hn₁ : n₁ ≤ w.heap.size) :
  SeqStopsK F n Tryd.prog 79 #[.pointer (some ⟨Bt, 0, none⟩)] TP.encs (KpW w0.heap.size n₁) (fun ys => ys.map TP.key = keysT x) (fun pre => pre.map TP.key <+: keysT x) (keysT x).length w := fun l J Jx W hW hJ _ hY h0 =>
 all1_in F hd n h_term_all_1 h_term_walk hro l Bt n₁ w0 x A c J Jx W (fun s W W' hs hg => hJ s W W' none hs hg (fun r e => by cases e)) hY (blk_below hBt hW) hl hC (HB.trans (hW.mono HB.size)) (Nat.le_trans hn₁ hW.size) h0
set_option maxRecDepth 100000 in
set_option maxHeartbeats 4000000 in
theorem size_in (F : Fence) (hd : F.depth = none) (n : Nat) (h_term_Size : F.fn 45) (h_term_all : F.fn 46) (h_term_all_1 : F.fn 79) (h_term_walk : F.fn 80) (hro : F.round = none) (hn : 3 ≤ n) (x : S29) (A : Option Addr) (c : Nat) (w : World) (hl : x.f3.length ≤ c) (hC : Kd.C k29 w A x.f3.length x.f3) :
  CallsIn F n Tryd.prog 45 #[.agg #[.int .i64 x.f0, .string x.f1, .int .i64 x.f2, .slice A x.f3.length c]] w fun e W' => e = .returned (.int .i64 (Nat.min (keysT x).length 4097 : Nat)) ∧ Below w.heap.size w W' := by
 have h1 : 1 ≤ n := by omega
 obtain ⟨W0, hW0⟩ : ∃ W0, ((w.alloc (.cells #[.int .i64 x.f0, .string x.f1, .int .i64 x.f2, .slice A x.f3.length c] 29)).alloc (.cells #[.int .i64 0] 3)).alloc (.cells #[.int .i64 x.f0, .string x.f1, .int .i64 x.f2, .slice A x.f3.length c] 29) = W0 := ⟨_, rfl⟩
 have hst := all_stops F hd (n - 1) h_term_all_1 h_term_walk hro (w.heap.size + 1 + 1) (w.heap.size + 3) w x A c W0 (by rw [← hW0]; simpa using blk_new ((w.alloc (.cells #[.int .i64 x.f0, .string x.f1, .int .i64 x.f2, .slice A x.f3.length c] 29)).alloc (.cells #[.int .i64 0] 3)) _) hl hC (by rw [← hW0]; exact below_alloc (below_alloc (below_alloc (Below.refl _ _) _) _) _) (by rw [← hW0]; simp)
 have bN : Boxed W0 (w.heap.size + 1) 3 (.int .i64 0) := by
  have := (Boxed.new (w.alloc (.cells #[.int .i64 x.f0, .string x.f1, .int .i64 x.f2, .slice A x.f3.length c] 29)) 3 (.int .i64 0)).alloc (.cells #[.int .i64 x.f0, .string x.f1, .int .i64 x.f2, .slice A x.f3.length c] 29)
  rw [hW0] at this
  simpa using this
 have hsz : W0.heap.size = w.heap.size + 3 := by rw [← hW0]; simp
 have hB0 : Below w.heap.size w W0 := by rw [← hW0]; exact below_alloc (below_alloc (below_alloc (Below.refl _ _) _) _) _
 obtain ⟨xop, xnm, xnu, xl⟩ := x
 dsimp only at hW0 hst hl hC ⊢
 have HST := Aside0.mk hst
 clear hst hC
 refine callsIn_of_wp_marks Tryd.func45 rfl h_term_Size ?_ hro
 simp only [Tryd.ntmps45, List.size_toArray, List.length_cons, List.length_nil, Nat.reduceAdd, Nat.reduceSub, Array.replicate_succ, Array.replicate_zero, List.push_toArray, List.append_toArray, List.nil_append, List.cons_append]
 have HW0 := Aside0.mk hW0
 have HSZ := Aside0.mk hsz
 clear hW0 hsz
 gi_wp2_with (gi_at_call 46; refine (all_in F (n - 1) h_term_all hro undef _ _ _ _ _ _ _).mono ?_; rintro e w' ⟨rfl, rfl⟩)
 rw [HW0.out]
 have hsz := HSZ.out
 refine wpIn_rangeFunc_ownF hro h1 (gf := 79) (lb := #[.pointer (some ⟨w.heap.size + 1 + 1, 0, none⟩)]) rfl h_term_all_1 (enters_of Tryd.func79 (by kernel_rfl) rfl)
  HST.out kpW_t (kpW_b (by omega)) (Below.refl _ _) (fun _ => rfl)
  (fun pre W => (pre.length ≤ 4096 ∧ Boxed W (w.heap.size + 1) 3 (.int .i64 (pre.length : Nat))) ∧ Below w.heap.size w W)
  (fun c pre W => ((c = .exit 0 ∧ pre.length = 4097) ∧ Boxed W (w.heap.size + 1) 3 (.int .i64 (4097 : Nat))) ∧ Below w.heap.size w W)
  (OwnFrom.and (OwnFrom.and (ownFrom_pure _ _) (Own.from (boxed_own _ _ _) _)) (ownFrom_below (Nat.le_refl _) (by omega)))
  (fun c => OwnFrom.and (OwnFrom.and (ownFrom_pure _ _) (Own.from (boxed_own _ _ _) _)) (ownFrom_below (Nat.le_refl _) (by omega)))
  ⟨⟨by simp, bN⟩, hB0⟩
  (fun x' => { tmps := #[.agg #[.int .i64 xop, .string xnm, .int .i64 xnu, .slice A xl.length c], .pointer (some ⟨w.heap.size, 0, none⟩), .int .i64 0, .pointer (some ⟨w.heap.size + 1, 0, none⟩), .agg #[.int .i64 xop, .string xnm, .int .i64 xnu, .slice A xl.length c], .func (.func 79) #[] #[.pointer (some ⟨w.heap.size + 1 + 1, 0, none⟩)], (.agg #[.int .i64 x'.op, .string x'.nm, .int .i64 x'.nu, .slice x'.A x'.n x'.c]), undef, undef, undef, undef, undef], defers := [] }) ?assign ?body ?done ?stop
 case assign =>
  intro l x W K hK
  gi_wp2
  simpa [TP.encs] using hK
 case body =>
  rintro l pre x W ⟨⟨hp, hb⟩, hB⟩ _
  have hc := hb.cell
  have hf := hb.frozen
  have hkp : ∀ v, KpW w.heap.size (w.heap.size + 3) W (W.setCell ⟨w.heap.size + 1, 0, none⟩ v) := fun v => kpW_set (by omega) (by omega) v
  by_cases hlt : pre.length < 4096
  ·
   have hd0 : decide (4096 < (pre.length : Int) + 1) = false := decide_eq_false (by omega)
   gi_wp2
   exact ⟨KeepsOthers.setCell _ _ _, hkp _, ⟨by simp; omega, by have := hb.set (.int .i64 ((pre.length : Int) + 1)); simpa using this⟩, below_set hB (by omega)⟩
  ·
   have hd0 : decide (4096 < (pre.length : Int) + 1) = true := decide_eq_true (by omega)
   have he : (pre.length : Int) + 1 = ((4097 : Nat) : Int) := by omega
   have hb2 := hb.set (.int .i64 ((pre.length : Int) + 1))
   rw [he] at hb2
   gi_wp2
   exact ⟨KeepsOthers.setCell _ _ _, ⟨⟨rfl, by simp; omega⟩, hb2⟩, below_set hB (by omega)⟩
 case done =>
  rintro D ys W hD hS ⟨⟨hp, hb⟩, hB⟩ hK
  have hc := hb.cell
  have hlen : (keysT ⟨xop, xnm, xnu, xl⟩).length = ys.length := by rw [← hS, List.length_map]
  have HL := Aside0.mk hlen
  have HS := Aside0.mk hS
  clear hlen hS
  gi_wp2
  refine ⟨by simp, .inl ⟨_, _, rfl, run_takeDeferred hK, ?_⟩⟩
  exact ⟨_, results_tmp rfl _ _ _, by rw [HL.out, show Nat.min ys.length 4097 = ys.length from Nat.min_eq_left (by omega)]; rfl, hB.trans (belowK_b (w := w) (Nat.le_refl _) W D _ _ (by omega) hK rfl rfl)⟩
 case stop =>
  rintro D c pre W hD hS ⟨⟨⟨rfl, hp⟩, hb⟩, hB⟩ hK
  have hc := hb.cell
  have hlen : 4097 ≤ (keysT ⟨xop, xnm, xnu, xl⟩).length := by
   have := hS.length_le
   rw [List.length_map] at this
   omega
  clear hS
  gi_wp2
  refine ⟨by simp, .inl ⟨_, _, rfl, run_takeDeferred hK, ?_⟩⟩
  exact ⟨_, results_tmp rfl _ _ _, by rw [show Nat.min (keysT ⟨xop, xnm, xnu, xl⟩).length 4097 = 4097 from Nat.min_eq_right hlen]; rfl, hB.trans (belowK_b (w := w) (Nat.le_refl _) W D _ _ (by omega) hK rfl rfl)⟩
end
def term_Size.f (a0_0 : Int) (a0_1 : ByteArray) (a0_2 : Int) (l0_3 : List S29) : Option Int := some (Nat.min (keysT ⟨a0_0, a0_1, a0_2, l0_3⟩).length 4097 : Nat)
theorem term_Size.any (x : S29) (A : Option Addr) (c : Nat) (w : World) (hl : x.f3.length ≤ c) (hC : Kd.C k29 w A x.f3.length x.f3) :
  Calls Tryd.prog 45 #[.agg #[.int .i64 x.f0, .string x.f1, .int .i64 x.f2, .slice A x.f3.length c]] w fun e W' => e = .returned (.int .i64 (Nat.min (keysT x).length 4097 : Nat)) ∧ Below w.heap.size w W' :=
 callsIn_wide.1 (size_in Fence.wide rfl 3 trivial trivial trivial trivial rfl (Nat.le_refl _) x A c w hl hC)
theorem term_Size.calls (a0_0 : Int) (a0_1 : ByteArray) (a0_2 : Int) (A0_3 : Option Addr) (c0_3 : Nat) (l0_3 : List S29) (r : Int) (w : World) (hr0_3 : Kd.C k29 w A0_3 l0_3.length l0_3) (hc0_3 : l0_3.length ≤ c0_3) (h : term_Size.f a0_0 a0_1 a0_2 l0_3 = some r) :
  Calls Tryd.prog 45 #[.agg #[.int .i64 a0_0, .string a0_1, .int .i64 a0_2, .slice A0_3 l0_3.length c0_3]] w fun e w' => e = .returned (.int .i64 r) ∧ Below w.heap.size w w' := by
 obtain rfl := Option.some.inj h
 exact term_Size.any ⟨a0_0, a0_1, a0_2, l0_3⟩ A0_3 c0_3 w hc0_3 hr0_3


/-! ### term_part: function 47 -/
-- EXT sequitur/term.part; making=1
set_option maxRecDepth 100000 in
set_option maxHeartbeats 4000000 in
theorem part_out (op : Int) (nm : ByteArray) (nu : Int) (A : Option Addr) (n c : Nat) (w : World) (ho : op < 1 ∨ 8 < op) :
  Calls Tryd.prog 47 #[.agg #[.int .i64 op, .string nm, .int .i64 nu, .slice A n c]] w fun e w' => e = .returned (.int .i64 7) ∧ Below w.heap.size w w' := by
 by_cases h1 : op < 1
 ·
  have d1 : decide (op < 1) = true := decide_eq_true h1
  cases e1 : (op == 1) <;> cases e2 : (op == 2)
  all_goals
   go_enter Tryd.func47, Tryd.ntmps47
   go_wp2
   go_ret
   exact ⟨rfl, below_alloc (Below.refl _ _) _⟩
 ·
  have d1 : decide (op < 1) = false := decide_eq_false h1
  have d2 : decide (8 < op) = true := decide_eq_true (by omega)
  have e1 : (op == 1) = false := by rw [beq_eq_false_iff_ne]; omega
  have e2 : (op == 2) = false := by rw [beq_eq_false_iff_ne]; omega
  have e3 : (op == 4) = false := by rw [beq_eq_false_iff_ne]; omega
  clear ho
  go_enter Tryd.func47, Tryd.ntmps47
  go_wp2
  go_ret
  exact ⟨rfl, below_alloc (Below.refl _ _) _⟩
set_option maxRecDepth 100000 in
set_option maxHeartbeats 4000000 in
theorem part_1u (nm : ByteArray) (nu : Int) (A : Option Addr) (n c : Nat) (w : World) (hL : NeedsLaid w) (hu : (nu = 0) = False) :
  Calls Tryd.prog 47 #[.agg #[.int .i64 1, .string nm, .int .i64 nu, .slice A n c]] w fun e w' => e = .returned (.int .i64 7) ∧ Below w.heap.size w w' := by
 have hc : (w.alloc (.cells #[.int .i64 1, .string nm, .int .i64 nu, .slice A n c] 29)).cell? ⟨0, 1, none⟩ = some (.int .i64 0) := (NeedsLaid.below hL (below_alloc (Below.refl _ _) _)).cell 1 (by decide)
 clear hL
 cases hs : nm.toList.isEmpty
 all_goals
  first | (have hs2 : nm.toList = [] := by simpa using hs) | (have hs2 : (nm.toList = []) = False := by simpa using hs)
  go_enter Tryd.func47, Tryd.ntmps47
  go_wp2
  go_ret
  exact ⟨rfl, below_alloc (Below.refl _ _) _⟩
set_option maxRecDepth 100000 in
set_option maxHeartbeats 4000000 in
theorem part_1a (nm : ByteArray) (nu : Int) (A : Option Addr) (n c : Nat) (w : World) (hL : NeedsLaid w) (hu : nu = 0) (ha : decide (0 < (n : Int)) = true) :
  Calls Tryd.prog 47 #[.agg #[.int .i64 1, .string nm, .int .i64 nu, .slice A n c]] w fun e w' => e = .returned (.int .i64 12) ∧ Below w.heap.size w w' := by
 have hc : (w.alloc (.cells #[.int .i64 1, .string nm, .int .i64 nu, .slice A n c] 29)).cell? ⟨0, 1, none⟩ = some (.int .i64 0) := (NeedsLaid.below hL (below_alloc (Below.refl _ _) _)).cell 1 (by decide)
 subst hu
 clear hL
 cases hs : nm.toList.isEmpty
 all_goals
  first | (have hs2 : nm.toList = [] := by simpa using hs) | (have hs2 : (nm.toList = []) = False := by simpa using hs)
  have ha2 : decide (0 < n) = true := decide_eq_true (by have := of_decide_eq_true ha; omega)
  go_enter Tryd.func47, Tryd.ntmps47
  go_wp2
  go_quiet (fail)
  go_wp2
  go_ret
  exact ⟨rfl, pw_below_drewN (below_alloc (Below.refl _ _) _) _⟩
set_option maxRecDepth 100000 in
set_option maxHeartbeats 4000000 in
theorem part_1z (nm : ByteArray) (nu : Int) (A : Option Addr) (n c : Nat) (w : World) (hL : NeedsLaid w) (hu : nu = 0) (hz : n = 0) :
  Calls Tryd.prog 47 #[.agg #[.int .i64 1, .string nm, .int .i64 nu, .slice A n c]] w fun e w' => e = .returned (.int .i64 0) ∧ Below w.heap.size w w' := by
 have hc : (w.alloc (.cells #[.int .i64 1, .string nm, .int .i64 nu, .slice A n c] 29)).cell? ⟨0, 1, none⟩ = some (.int .i64 0) := (NeedsLaid.below hL (below_alloc (Below.refl _ _) _)).cell 1 (by decide)
 subst hu
 clear hL
 cases hs : nm.toList.isEmpty
 all_goals
  subst hz
  first | (have hs2 : nm.toList = [] := by simpa using hs) | (have hs2 : (nm.toList = []) = False := by simpa using hs)
  go_enter Tryd.func47, Tryd.ntmps47
  go_wp2
  go_quiet (fail)
  go_wp2
  go_ret
  exact ⟨rfl, pw_below_drewN (below_alloc (Below.refl _ _) _) _⟩
set_option maxRecDepth 100000 in
set_option maxHeartbeats 4000000 in
theorem part_2n (nm : ByteArray) (nu : Int) (A : Option Addr) (n c : Nat) (w : World) (hL : NeedsLaid w) (hs : nm.toList.isEmpty = false) :
  Calls Tryd.prog 47 #[.agg #[.int .i64 2, .string nm, .int .i64 nu, .slice A n c]] w fun e w' => e = .returned (.int .i64 7) ∧ Below w.heap.size w w' := by
 have hc : (w.alloc (.cells #[.int .i64 2, .string nm, .int .i64 nu, .slice A n c] 29)).cell? ⟨0, 2, none⟩ = some (.int .i64 0) := (NeedsLaid.below hL (below_alloc (Below.refl _ _) _)).cell 2 (by decide)
 clear hL
 all_goals
  have hs2 : (nm.toList = []) = False := by simpa using hs
  go_enter Tryd.func47, Tryd.ntmps47
  go_wp2
  go_ret
  exact ⟨rfl, below_alloc (Below.refl _ _) _⟩
set_option maxRecDepth 100000 in
set_option maxHeartbeats 4000000 in
theorem part_2m (nm : ByteArray) (nu : Int) (A : Option Addr) (n c : Nat) (w : World) (hL : NeedsLaid w) (hs : nm.toList.isEmpty = true) (hm : decide (nu < 0) = true) :
  Calls Tryd.prog 47 #[.agg #[.int .i64 2, .string nm, .int .i64 nu, .slice A n c]] w fun e w' => e = .returned (.int .i64 7) ∧ Below w.heap.size w w' := by
 have hc : (w.alloc (.cells #[.int .i64 2, .string nm, .int .i64 nu, .slice A n c] 29)).cell? ⟨0, 2, none⟩ = some (.int .i64 0) := (NeedsLaid.below hL (below_alloc (Below.refl _ _) _)).cell 2 (by decide)
 clear hL
 all_goals
  have hs2 : nm.toList = [] := by simpa using hs
  have hu : (nu = 0) = False := eq_false (by have := of_decide_eq_true hm; omega)
  go_enter Tryd.func47, Tryd.ntmps47
  go_wp2
  go_ret
  exact ⟨rfl, below_alloc (Below.refl _ _) _⟩
set_option maxRecDepth 100000 in
set_option maxHeartbeats 4000000 in
theorem part_2a (nm : ByteArray) (nu : Int) (A : Option Addr) (n c : Nat) (w : World) (hL : NeedsLaid w) (hs : nm.toList.isEmpty = true) (hm : decide (nu < 0) = false) (ha : decide (0 < (n : Int)) = true) :
  Calls Tryd.prog 47 #[.agg #[.int .i64 2, .string nm, .int .i64 nu, .slice A n c]] w fun e w' => e = .returned (.int .i64 12) ∧ Below w.heap.size w w' := by
 have hc : (w.alloc (.cells #[.int .i64 2, .string nm, .int .i64 nu, .slice A n c] 29)).cell? ⟨0, 2, none⟩ = some (.int .i64 0) := (NeedsLaid.below hL (below_alloc (Below.refl _ _) _)).cell 2 (by decide)
 clear hL
 (all_goals by_cases hu : nu = 0)
 all_goals
  have hs2 : nm.toList = [] := by simpa using hs
  have ha2 : decide (0 < n) = true := decide_eq_true (by have := of_decide_eq_true ha; omega)
  first | subst hu | replace hu := eq_false hu
  go_enter Tryd.func47, Tryd.ntmps47
  go_wp2
  go_quiet (fail)
  go_wp2
  go_ret
  exact ⟨rfl, pw_below_drewN (below_alloc (Below.refl _ _) _) _⟩
set_option maxRecDepth 100000 in
set_option maxHeartbeats 4000000 in
theorem part_2z (nm : ByteArray) (nu : Int) (A : Option Addr) (n c : Nat) (w : World) (hL : NeedsLaid w) (hs : nm.toList.isEmpty = true) (hm : decide (nu < 0) = false) (hz : n = 0) :
  Calls Tryd.prog 47 #[.agg #[.int .i64 2, .string nm, .int .i64 nu, .slice A n c]] w fun e w' => e = .returned (.int .i64 0) ∧ Below w.heap.size w w' := by
 have hc : (w.alloc (.cells #[.int .i64 2, .string nm, .int .i64 nu, .slice A n c] 29)).cell? ⟨0, 2, none⟩ = some (.int .i64 0) := (NeedsLaid.below hL (below_alloc (Below.refl _ _) _)).cell 2 (by decide)
 clear hL
 (all_goals by_cases hu : nu = 0)
 all_goals
  subst hz
  have hs2 : nm.toList = [] := by simpa using hs
  first | subst hu | replace hu := eq_false hu
  go_enter Tryd.func47, Tryd.ntmps47
  go_wp2
  go_quiet (fail)
  go_wp2
  go_ret
  exact ⟨rfl, pw_below_drewN (below_alloc (Below.refl _ _) _) _⟩
set_option maxRecDepth 100000 in
set_option maxHeartbeats 4000000 in
theorem part_3u (nm : ByteArray) (nu : Int) (A : Option Addr) (n c : Nat) (w : World) (hL : NeedsLaid w) (hu : (nu = 0) = False) :
  Calls Tryd.prog 47 #[.agg #[.int .i64 3, .string nm, .int .i64 nu, .slice A n c]] w fun e w' => e = .returned (.int .i64 7) ∧ Below w.heap.size w w' := by
 have hc : (w.alloc (.cells #[.int .i64 3, .string nm, .int .i64 nu, .slice A n c] 29)).cell? ⟨0, 3, none⟩ = some (.int .i64 8) := (NeedsLaid.below hL (below_alloc (Below.refl _ _) _)).cell 3 (by decide)
 clear hL
 cases hs : nm.toList.isEmpty
 all_goals
  first | (have hs2 : nm.toList = [] := by simpa using hs) | (have hs2 : (nm.toList = []) = False := by simpa using hs)
  go_enter Tryd.func47, Tryd.ntmps47
  go_wp2
  go_ret
  exact ⟨rfl, below_alloc (Below.refl _ _) _⟩
set_option maxRecDepth 100000 in
set_option maxHeartbeats 4000000 in
theorem part_3a (nm : ByteArray) (nu : Int) (A : Option Addr) (n c : Nat) (w : World) (hL : NeedsLaid w) (hu : nu = 0) (ha : decide (8 < (n : Int)) = true) :
  Calls Tryd.prog 47 #[.agg #[.int .i64 3, .string nm, .int .i64 nu, .slice A n c]] w fun e w' => e = .returned (.int .i64 12) ∧ Below w.heap.size w w' := by
 have hc : (w.alloc (.cells #[.int .i64 3, .string nm, .int .i64 nu, .slice A n c] 29)).cell? ⟨0, 3, none⟩ = some (.int .i64 8) := (NeedsLaid.below hL (below_alloc (Below.refl _ _) _)).cell 3 (by decide)
 subst hu
 clear hL
 cases hs : nm.toList.isEmpty
 all_goals
  first | (have hs2 : nm.toList = [] := by simpa using hs) | (have hs2 : (nm.toList = []) = False := by simpa using hs)
  go_enter Tryd.func47, Tryd.ntmps47
  go_wp2
  go_quiet (fail)
  go_wp2
  go_ret
  exact ⟨rfl, pw_below_drewN (below_alloc (Below.refl _ _) _) _⟩
set_option maxRecDepth 100000 in
set_option maxHeartbeats 4000000 in
theorem part_3z (nm : ByteArray) (nu : Int) (A : Option Addr) (n c : Nat) (w : World) (hL : NeedsLaid w) (hu : nu = 0) (ha : decide (8 < (n : Int)) = false) :
  Calls Tryd.prog 47 #[.agg #[.int .i64 3, .string nm, .int .i64 nu, .slice A n c]] w fun e w' => e = .returned (.int .i64 0) ∧ Below w.heap.size w w' := by
 have hc : (w.alloc (.cells #[.int .i64 3, .string nm, .int .i64 nu, .slice A n c] 29)).cell? ⟨0, 3, none⟩ = some (.int .i64 8) := (NeedsLaid.below hL (below_alloc (Below.refl _ _) _)).cell 3 (by decide)
 subst hu
 clear hL
 cases hs : nm.toList.isEmpty
 all_goals
  first | (have hs2 : nm.toList = [] := by simpa using hs) | (have hs2 : (nm.toList = []) = False := by simpa using hs)
  go_enter Tryd.func47, Tryd.ntmps47
  go_wp2
  go_quiet (fail)
  go_wp2
  go_ret
  exact ⟨rfl, pw_below_drewN (below_alloc (Below.refl _ _) _) _⟩
set_option maxRecDepth 100000 in
set_option maxHeartbeats 4000000 in
theorem part_4n (nm : ByteArray) (nu : Int) (A : Option Addr) (n c : Nat) (w : World) (hL : NeedsLaid w) (hs : nm.toList.isEmpty = false) :
  Calls Tryd.prog 47 #[.agg #[.int .i64 4, .string nm, .int .i64 nu, .slice A n c]] w fun e w' => e = .returned (.int .i64 7) ∧ Below w.heap.size w w' := by
 have hc : (w.alloc (.cells #[.int .i64 4, .string nm, .int .i64 nu, .slice A n c] 29)).cell? ⟨0, 4, none⟩ = some (.int .i64 0) := (NeedsLaid.below hL (below_alloc (Below.refl _ _) _)).cell 4 (by decide)
 clear hL
 all_goals
  have hs2 : (nm.toList = []) = False := by simpa using hs
  go_enter Tryd.func47, Tryd.ntmps47
  go_wp2
  go_ret
  exact ⟨rfl, below_alloc (Below.refl _ _) _⟩
set_option maxRecDepth 100000 in
set_option maxHeartbeats 4000000 in
theorem part_4a (nm : ByteArray) (nu : Int) (A : Option Addr) (n c : Nat) (w : World) (hL : NeedsLaid w) (hs : nm.toList.isEmpty = true) (ha : decide (0 < (n : Int)) = true) :
  Calls Tryd.prog 47 #[.agg #[.int .i64 4, .string nm, .int .i64 nu, .slice A n c]] w fun e w' => e = .returned (.int .i64 12) ∧ Below w.heap.size w w' := by
 have hc : (w.alloc (.cells #[.int .i64 4, .string nm, .int .i64 nu, .slice A n c] 29)).cell? ⟨0, 4, none⟩ = some (.int .i64 0) := (NeedsLaid.below hL (below_alloc (Below.refl _ _) _)).cell 4 (by decide)
 clear hL
 (all_goals by_cases hu : nu = 0)
 all_goals
  have hs2 : nm.toList = [] := by simpa using hs
  have ha2 : decide (0 < n) = true := decide_eq_true (by have := of_decide_eq_true ha; omega)
  first | subst hu | replace hu := eq_false hu
  go_enter Tryd.func47, Tryd.ntmps47
  go_wp2
  go_quiet (fail)
  go_wp2
  go_ret
  exact ⟨rfl, pw_below_drewN (below_alloc (Below.refl _ _) _) _⟩
set_option maxRecDepth 100000 in
set_option maxHeartbeats 4000000 in
theorem part_4z (nm : ByteArray) (nu : Int) (A : Option Addr) (n c : Nat) (w : World) (hL : NeedsLaid w) (hs : nm.toList.isEmpty = true) (hz : n = 0) :
  Calls Tryd.prog 47 #[.agg #[.int .i64 4, .string nm, .int .i64 nu, .slice A n c]] w fun e w' => e = .returned (.int .i64 0) ∧ Below w.heap.size w w' := by
 have hc : (w.alloc (.cells #[.int .i64 4, .string nm, .int .i64 nu, .slice A n c] 29)).cell? ⟨0, 4, none⟩ = some (.int .i64 0) := (NeedsLaid.below hL (below_alloc (Below.refl _ _) _)).cell 4 (by decide)
 clear hL
 (all_goals by_cases hu : nu = 0)
 all_goals
  subst hz
  have hs2 : nm.toList = [] := by simpa using hs
  first | subst hu | replace hu := eq_false hu
  go_enter Tryd.func47, Tryd.ntmps47
  go_wp2
  go_quiet (fail)
  go_wp2
  go_ret
  exact ⟨rfl, pw_below_drewN (below_alloc (Below.refl _ _) _) _⟩
set_option maxRecDepth 100000 in
set_option maxHeartbeats 4000000 in
theorem part_5n (nm : ByteArray) (nu : Int) (A : Option Addr) (n c : Nat) (w : World) (hL : NeedsLaid w) (hs : nm.toList.isEmpty = false) :
  Calls Tryd.prog 47 #[.agg #[.int .i64 5, .string nm, .int .i64 nu, .slice A n c]] w fun e w' => e = .returned (.int .i64 7) ∧ Below w.heap.size w w' := by
 have hc : (w.alloc (.cells #[.int .i64 5, .string nm, .int .i64 nu, .slice A n c] 29)).cell? ⟨0, 5, none⟩ = some (.int .i64 2) := (NeedsLaid.below hL (below_alloc (Below.refl _ _) _)).cell 5 (by decide)
 clear hL
 all_goals
  have hs2 : (nm.toList = []) = False := by simpa using hs
  go_enter Tryd.func47, Tryd.ntmps47
  go_wp2
  go_ret
  exact ⟨rfl, below_alloc (Below.refl _ _) _⟩
set_option maxRecDepth 100000 in
set_option maxHeartbeats 4000000 in
theorem part_5u (nm : ByteArray) (nu : Int) (A : Option Addr) (n c : Nat) (w : World) (hL : NeedsLaid w) (hs : nm.toList.isEmpty = true) (hu : (nu = 0) = False) :
  Calls Tryd.prog 47 #[.agg #[.int .i64 5, .string nm, .int .i64 nu, .slice A n c]] w fun e w' => e = .returned (.int .i64 7) ∧ Below w.heap.size w w' := by
 have hc : (w.alloc (.cells #[.int .i64 5, .string nm, .int .i64 nu, .slice A n c] 29)).cell? ⟨0, 5, none⟩ = some (.int .i64 2) := (NeedsLaid.below hL (below_alloc (Below.refl _ _) _)).cell 5 (by decide)
 clear hL
 all_goals
  have hs2 : nm.toList = [] := by simpa using hs
  go_enter Tryd.func47, Tryd.ntmps47
  go_wp2
  go_ret
  exact ⟨rfl, below_alloc (Below.refl _ _) _⟩
set_option maxRecDepth 100000 in
set_option maxHeartbeats 4000000 in
theorem part_5a (nm : ByteArray) (nu : Int) (A : Option Addr) (n c : Nat) (w : World) (hL : NeedsLaid w) (hs : nm.toList.isEmpty = true) (hu : nu = 0) (ha : decide (2 < (n : Int)) = true) :
  Calls Tryd.prog 47 #[.agg #[.int .i64 5, .string nm, .int .i64 nu, .slice A n c]] w fun e w' => e = .returned (.int .i64 12) ∧ Below w.heap.size w w' := by
 have hc : (w.alloc (.cells #[.int .i64 5, .string nm, .int .i64 nu, .slice A n c] 29)).cell? ⟨0, 5, none⟩ = some (.int .i64 2) := (NeedsLaid.below hL (below_alloc (Below.refl _ _) _)).cell 5 (by decide)
 subst hu
 clear hL
 all_goals
  have hs2 : nm.toList = [] := by simpa using hs
  go_enter Tryd.func47, Tryd.ntmps47
  go_wp2
  go_quiet (fail)
  go_wp2
  go_ret
  exact ⟨rfl, pw_below_drewN (below_alloc (Below.refl _ _) _) _⟩
set_option maxRecDepth 100000 in
set_option maxHeartbeats 4000000 in
theorem part_5b (nm : ByteArray) (nu : Int) (A : Option Addr) (n c : Nat) (w : World) (hL : NeedsLaid w) (hs : nm.toList.isEmpty = true) (hu : nu = 0) (ha : decide (2 < (n : Int)) = false) (hb : ((n : Int) == 2) = false) :
  Calls Tryd.prog 47 #[.agg #[.int .i64 5, .string nm, .int .i64 nu, .slice A n c]] w fun e w' => e = .returned (.int .i64 12) ∧ Below w.heap.size w w' := by
 have hc : (w.alloc (.cells #[.int .i64 5, .string nm, .int .i64 nu, .slice A n c] 29)).cell? ⟨0, 5, none⟩ = some (.int .i64 2) := (NeedsLaid.below hL (below_alloc (Below.refl _ _) _)).cell 5 (by decide)
 subst hu
 clear hL
 all_goals
  have hs2 : nm.toList = [] := by simpa using hs
  go_enter Tryd.func47, Tryd.ntmps47
  go_wp2
  go_quiet (fail)
  go_wp2
  go_ret
  exact ⟨rfl, pw_below_drewN (below_alloc (Below.refl _ _) _) _⟩
set_option maxRecDepth 100000 in
set_option maxHeartbeats 4000000 in
theorem part_5z (nm : ByteArray) (nu : Int) (A : Option Addr) (n c : Nat) (w : World) (hL : NeedsLaid w) (hs : nm.toList.isEmpty = true) (hu : nu = 0) (hz : n = 2) :
  Calls Tryd.prog 47 #[.agg #[.int .i64 5, .string nm, .int .i64 nu, .slice A n c]] w fun e w' => e = .returned (.int .i64 0) ∧ Below w.heap.size w w' := by
 have hc : (w.alloc (.cells #[.int .i64 5, .string nm, .int .i64 nu, .slice A n c] 29)).cell? ⟨0, 5, none⟩ = some (.int .i64 2) := (NeedsLaid.below hL (below_alloc (Below.refl _ _) _)).cell 5 (by decide)
 subst hu
 clear hL
 all_goals
  subst hz
  have hs2 : nm.toList = [] := by simpa using hs
  go_enter Tryd.func47, Tryd.ntmps47
  go_wp2
  go_quiet (fail)
  go_wp2
  go_ret
  exact ⟨rfl, pw_below_drewN (below_alloc (Below.refl _ _) _) _⟩
set_option maxRecDepth 100000 in
set_option maxHeartbeats 4000000 in
theorem part_6n (nm : ByteArray) (nu : Int) (A : Option Addr) (n c : Nat) (w : World) (hL : NeedsLaid w) (hs : nm.toList.isEmpty = false) :
  Calls Tryd.prog 47 #[.agg #[.int .i64 6, .string nm, .int .i64 nu, .slice A n c]] w fun e w' => e = .returned (.int .i64 7) ∧ Below w.heap.size w w' := by
 have hc : (w.alloc (.cells #[.int .i64 6, .string nm, .int .i64 nu, .slice A n c] 29)).cell? ⟨0, 6, none⟩ = some (.int .i64 2) := (NeedsLaid.below hL (below_alloc (Below.refl _ _) _)).cell 6 (by decide)
 clear hL
 all_goals
  have hs2 : (nm.toList = []) = False := by simpa using hs
  go_enter Tryd.func47, Tryd.ntmps47
  go_wp2
  go_ret
  exact ⟨rfl, below_alloc (Below.refl _ _) _⟩
set_option maxRecDepth 100000 in
set_option maxHeartbeats 4000000 in
theorem part_6u (nm : ByteArray) (nu : Int) (A : Option Addr) (n c : Nat) (w : World) (hL : NeedsLaid w) (hs : nm.toList.isEmpty = true) (hu : (nu = 0) = False) :
  Calls Tryd.prog 47 #[.agg #[.int .i64 6, .string nm, .int .i64 nu, .slice A n c]] w fun e w' => e = .returned (.int .i64 7) ∧ Below w.heap.size w w' := by
 have hc : (w.alloc (.cells #[.int .i64 6, .string nm, .int .i64 nu, .slice A n c] 29)).cell? ⟨0, 6, none⟩ = some (.int .i64 2) := (NeedsLaid.below hL (below_alloc (Below.refl _ _) _)).cell 6 (by decide)
 clear hL
 all_goals
  have hs2 : nm.toList = [] := by simpa using hs
  go_enter Tryd.func47, Tryd.ntmps47
  go_wp2
  go_ret
  exact ⟨rfl, below_alloc (Below.refl _ _) _⟩
set_option maxRecDepth 100000 in
set_option maxHeartbeats 4000000 in
theorem part_6a (nm : ByteArray) (nu : Int) (A : Option Addr) (n c : Nat) (w : World) (hL : NeedsLaid w) (hs : nm.toList.isEmpty = true) (hu : nu = 0) (ha : decide (2 < (n : Int)) = true) :
  Calls Tryd.prog 47 #[.agg #[.int .i64 6, .string nm, .int .i64 nu, .slice A n c]] w fun e w' => e = .returned (.int .i64 12) ∧ Below w.heap.size w w' := by
 have hc : (w.alloc (.cells #[.int .i64 6, .string nm, .int .i64 nu, .slice A n c] 29)).cell? ⟨0, 6, none⟩ = some (.int .i64 2) := (NeedsLaid.below hL (below_alloc (Below.refl _ _) _)).cell 6 (by decide)
 subst hu
 clear hL
 all_goals
  have hs2 : nm.toList = [] := by simpa using hs
  go_enter Tryd.func47, Tryd.ntmps47
  go_wp2
  go_quiet (fail)
  go_wp2
  go_ret
  exact ⟨rfl, pw_below_drewN (below_alloc (Below.refl _ _) _) _⟩
set_option maxRecDepth 100000 in
set_option maxHeartbeats 4000000 in
theorem part_6b (nm : ByteArray) (nu : Int) (A : Option Addr) (n c : Nat) (w : World) (hL : NeedsLaid w) (hs : nm.toList.isEmpty = true) (hu : nu = 0) (ha : decide (2 < (n : Int)) = false) (hb : ((n : Int) == 2) = false) :
  Calls Tryd.prog 47 #[.agg #[.int .i64 6, .string nm, .int .i64 nu, .slice A n c]] w fun e w' => e = .returned (.int .i64 12) ∧ Below w.heap.size w w' := by
 have hc : (w.alloc (.cells #[.int .i64 6, .string nm, .int .i64 nu, .slice A n c] 29)).cell? ⟨0, 6, none⟩ = some (.int .i64 2) := (NeedsLaid.below hL (below_alloc (Below.refl _ _) _)).cell 6 (by decide)
 subst hu
 clear hL
 all_goals
  have hs2 : nm.toList = [] := by simpa using hs
  go_enter Tryd.func47, Tryd.ntmps47
  go_wp2
  go_quiet (fail)
  go_wp2
  go_ret
  exact ⟨rfl, pw_below_drewN (below_alloc (Below.refl _ _) _) _⟩
set_option maxRecDepth 100000 in
set_option maxHeartbeats 4000000 in
theorem part_6z (nm : ByteArray) (nu : Int) (A : Option Addr) (n c : Nat) (w : World) (hL : NeedsLaid w) (hs : nm.toList.isEmpty = true) (hu : nu = 0) (hz : n = 2) :
  Calls Tryd.prog 47 #[.agg #[.int .i64 6, .string nm, .int .i64 nu, .slice A n c]] w fun e w' => e = .returned (.int .i64 0) ∧ Below w.heap.size w w' := by
 have hc : (w.alloc (.cells #[.int .i64 6, .string nm, .int .i64 nu, .slice A n c] 29)).cell? ⟨0, 6, none⟩ = some (.int .i64 2) := (NeedsLaid.below hL (below_alloc (Below.refl _ _) _)).cell 6 (by decide)
 subst hu
 clear hL
 all_goals
  subst hz
  have hs2 : nm.toList = [] := by simpa using hs
  go_enter Tryd.func47, Tryd.ntmps47
  go_wp2
  go_quiet (fail)
  go_wp2
  go_ret
  exact ⟨rfl, pw_below_drewN (below_alloc (Below.refl _ _) _) _⟩
set_option maxRecDepth 100000 in
set_option maxHeartbeats 4000000 in
theorem part_7n (nm : ByteArray) (nu : Int) (A : Option Addr) (n c : Nat) (w : World) (hL : NeedsLaid w) (hs : nm.toList.isEmpty = false) :
  Calls Tryd.prog 47 #[.agg #[.int .i64 7, .string nm, .int .i64 nu, .slice A n c]] w fun e w' => e = .returned (.int .i64 7) ∧ Below w.heap.size w w' := by
 have hc : (w.alloc (.cells #[.int .i64 7, .string nm, .int .i64 nu, .slice A n c] 29)).cell? ⟨0, 7, none⟩ = some (.int .i64 1) := (NeedsLaid.below hL (below_alloc (Below.refl _ _) _)).cell 7 (by decide)
 clear hL
 all_goals
  have hs2 : (nm.toList = []) = False := by simpa using hs
  go_enter Tryd.func47, Tryd.ntmps47
  go_wp2
  go_ret
  exact ⟨rfl, below_alloc (Below.refl _ _) _⟩
set_option maxRecDepth 100000 in
set_option maxHeartbeats 4000000 in
theorem part_7u (nm : ByteArray) (nu : Int) (A : Option Addr) (n c : Nat) (w : World) (hL : NeedsLaid w) (hs : nm.toList.isEmpty = true) (hu : (nu = 0) = False) :
  Calls Tryd.prog 47 #[.agg #[.int .i64 7, .string nm, .int .i64 nu, .slice A n c]] w fun e w' => e = .returned (.int .i64 7) ∧ Below w.heap.size w w' := by
 have hc : (w.alloc (.cells #[.int .i64 7, .string nm, .int .i64 nu, .slice A n c] 29)).cell? ⟨0, 7, none⟩ = some (.int .i64 1) := (NeedsLaid.below hL (below_alloc (Below.refl _ _) _)).cell 7 (by decide)
 clear hL
 all_goals
  have hs2 : nm.toList = [] := by simpa using hs
  go_enter Tryd.func47, Tryd.ntmps47
  go_wp2
  go_ret
  exact ⟨rfl, below_alloc (Below.refl _ _) _⟩
set_option maxRecDepth 100000 in
set_option maxHeartbeats 4000000 in
theorem part_7a (nm : ByteArray) (nu : Int) (A : Option Addr) (n c : Nat) (w : World) (hL : NeedsLaid w) (hs : nm.toList.isEmpty = true) (hu : nu = 0) (ha : decide (1 < (n : Int)) = true) :
  Calls Tryd.prog 47 #[.agg #[.int .i64 7, .string nm, .int .i64 nu, .slice A n c]] w fun e w' => e = .returned (.int .i64 12) ∧ Below w.heap.size w w' := by
 have hc : (w.alloc (.cells #[.int .i64 7, .string nm, .int .i64 nu, .slice A n c] 29)).cell? ⟨0, 7, none⟩ = some (.int .i64 1) := (NeedsLaid.below hL (below_alloc (Below.refl _ _) _)).cell 7 (by decide)
 subst hu
 clear hL
 all_goals
  have hs2 : nm.toList = [] := by simpa using hs
  go_enter Tryd.func47, Tryd.ntmps47
  go_wp2
  go_quiet (fail)
  go_wp2
  go_ret
  exact ⟨rfl, pw_below_drewN (below_alloc (Below.refl _ _) _) _⟩
set_option maxRecDepth 100000 in
set_option maxHeartbeats 4000000 in
theorem part_7b (nm : ByteArray) (nu : Int) (A : Option Addr) (n c : Nat) (w : World) (hL : NeedsLaid w) (hs : nm.toList.isEmpty = true) (hu : nu = 0) (ha : decide (1 < (n : Int)) = false) (hb : ((n : Int) == 1) = false) :
  Calls Tryd.prog 47 #[.agg #[.int .i64 7, .string nm, .int .i64 nu, .slice A n c]] w fun e w' => e = .returned (.int .i64 12) ∧ Below w.heap.size w w' := by
 have hc : (w.alloc (.cells #[.int .i64 7, .string nm, .int .i64 nu, .slice A n c] 29)).cell? ⟨0, 7, none⟩ = some (.int .i64 1) := (NeedsLaid.below hL (below_alloc (Below.refl _ _) _)).cell 7 (by decide)
 subst hu
 clear hL
 all_goals
  have hs2 : nm.toList = [] := by simpa using hs
  go_enter Tryd.func47, Tryd.ntmps47
  go_wp2
  go_quiet (fail)
  go_wp2
  go_ret
  exact ⟨rfl, pw_below_drewN (below_alloc (Below.refl _ _) _) _⟩
set_option maxRecDepth 100000 in
set_option maxHeartbeats 4000000 in
theorem part_7z (nm : ByteArray) (nu : Int) (A : Option Addr) (n c : Nat) (w : World) (hL : NeedsLaid w) (hs : nm.toList.isEmpty = true) (hu : nu = 0) (hz : n = 1) :
  Calls Tryd.prog 47 #[.agg #[.int .i64 7, .string nm, .int .i64 nu, .slice A n c]] w fun e w' => e = .returned (.int .i64 0) ∧ Below w.heap.size w w' := by
 have hc : (w.alloc (.cells #[.int .i64 7, .string nm, .int .i64 nu, .slice A n c] 29)).cell? ⟨0, 7, none⟩ = some (.int .i64 1) := (NeedsLaid.below hL (below_alloc (Below.refl _ _) _)).cell 7 (by decide)
 subst hu
 clear hL
 all_goals
  subst hz
  have hs2 : nm.toList = [] := by simpa using hs
  go_enter Tryd.func47, Tryd.ntmps47
  go_wp2
  go_quiet (fail)
  go_wp2
  go_ret
  exact ⟨rfl, pw_below_drewN (below_alloc (Below.refl _ _) _) _⟩
set_option maxRecDepth 100000 in
set_option maxHeartbeats 4000000 in
theorem part_8n (nm : ByteArray) (nu : Int) (A : Option Addr) (n c : Nat) (w : World) (hL : NeedsLaid w) (hs : nm.toList.isEmpty = false) :
  Calls Tryd.prog 47 #[.agg #[.int .i64 8, .string nm, .int .i64 nu, .slice A n c]] w fun e w' => e = .returned (.int .i64 7) ∧ Below w.heap.size w w' := by
 have hc : (w.alloc (.cells #[.int .i64 8, .string nm, .int .i64 nu, .slice A n c] 29)).cell? ⟨0, 8, none⟩ = some (.int .i64 1) := (NeedsLaid.below hL (below_alloc (Below.refl _ _) _)).cell 8 (by decide)
 clear hL
 all_goals
  have hs2 : (nm.toList = []) = False := by simpa using hs
  go_enter Tryd.func47, Tryd.ntmps47
  go_wp2
  go_ret
  exact ⟨rfl, below_alloc (Below.refl _ _) _⟩
set_option maxRecDepth 100000 in
set_option maxHeartbeats 4000000 in
theorem part_8a (nm : ByteArray) (nu : Int) (A : Option Addr) (n c : Nat) (w : World) (hL : NeedsLaid w) (hs : nm.toList.isEmpty = true) (ha : decide (1 < (n : Int)) = true) :
  Calls Tryd.prog 47 #[.agg #[.int .i64 8, .string nm, .int .i64 nu, .slice A n c]] w fun e w' => e = .returned (.int .i64 12) ∧ Below w.heap.size w w' := by
 have hc : (w.alloc (.cells #[.int .i64 8, .string nm, .int .i64 nu, .slice A n c] 29)).cell? ⟨0, 8, none⟩ = some (.int .i64 1) := (NeedsLaid.below hL (below_alloc (Below.refl _ _) _)).cell 8 (by decide)
 clear hL
 (all_goals by_cases hu : nu = 0)
 all_goals
  have hs2 : nm.toList = [] := by simpa using hs
  first | subst hu | replace hu := eq_false hu
  go_enter Tryd.func47, Tryd.ntmps47
  go_wp2
  go_quiet (fail)
  go_wp2
  go_ret
  exact ⟨rfl, pw_below_drewN (below_alloc (Below.refl _ _) _) _⟩
set_option maxRecDepth 100000 in
set_option maxHeartbeats 4000000 in
theorem part_8b (nm : ByteArray) (nu : Int) (A : Option Addr) (n c : Nat) (w : World) (hL : NeedsLaid w) (hs : nm.toList.isEmpty = true) (ha : decide (1 < (n : Int)) = false) (hb : ((n : Int) == 1) = false) :
  Calls Tryd.prog 47 #[.agg #[.int .i64 8, .string nm, .int .i64 nu, .slice A n c]] w fun e w' => e = .returned (.int .i64 12) ∧ Below w.heap.size w w' := by
 have hc : (w.alloc (.cells #[.int .i64 8, .string nm, .int .i64 nu, .slice A n c] 29)).cell? ⟨0, 8, none⟩ = some (.int .i64 1) := (NeedsLaid.below hL (below_alloc (Below.refl _ _) _)).cell 8 (by decide)
 clear hL
 (all_goals by_cases hu : nu = 0)
 all_goals
  have hs2 : nm.toList = [] := by simpa using hs
  first | subst hu | replace hu := eq_false hu
  go_enter Tryd.func47, Tryd.ntmps47
  go_wp2
  go_quiet (fail)
  go_wp2
  go_ret
  exact ⟨rfl, pw_below_drewN (below_alloc (Below.refl _ _) _) _⟩
set_option maxRecDepth 100000 in
set_option maxHeartbeats 4000000 in
theorem part_8z (nm : ByteArray) (nu : Int) (A : Option Addr) (n c : Nat) (w : World) (hL : NeedsLaid w) (hs : nm.toList.isEmpty = true) (hz : n = 1) :
  Calls Tryd.prog 47 #[.agg #[.int .i64 8, .string nm, .int .i64 nu, .slice A n c]] w fun e w' => e = .returned (.int .i64 0) ∧ Below w.heap.size w w' := by
 have hc : (w.alloc (.cells #[.int .i64 8, .string nm, .int .i64 nu, .slice A n c] 29)).cell? ⟨0, 8, none⟩ = some (.int .i64 1) := (NeedsLaid.below hL (below_alloc (Below.refl _ _) _)).cell 8 (by decide)
 clear hL
 (all_goals by_cases hu : nu = 0)
 all_goals
  subst hz
  have hs2 : nm.toList = [] := by simpa using hs
  first | subst hu | replace hu := eq_false hu
  go_enter Tryd.func47, Tryd.ntmps47
  go_wp2
  go_quiet (fail)
  go_wp2
  go_ret
  exact ⟨rfl, pw_below_drewN (below_alloc (Below.refl _ _) _) _⟩

/-- Why a part can't be. -/
def partE (op : Int) (nm : ByteArray) (nu : Int) (n : Nat) : Int :=
 if op < 1 ∨ 8 < op then 7 else
 if nm.toList.isEmpty = false ∧ op ≠ 1 ∧ op ≠ 3 then 7 else
 if nu ≠ 0 ∧ op ≠ 2 ∧ op ≠ 4 ∧ op ≠ 8 then 7 else
 if op = 2 ∧ nu < 0 then 7 else
 if needsTab.getD op.toNat 0 < (n : Int) then 12 else
 if op ≠ 3 ∧ (n : Int) ≠ needsTab.getD op.toNat 0 then 12 else 0
theorem part_1 (nm : ByteArray) (nu : Int) (A : Option Addr) (n c : Nat) (w : World) (hL : NeedsLaid w) :
  Calls Tryd.prog 47 #[.agg #[.int .i64 1, .string nm, .int .i64 nu, .slice A n c]] w fun e w' => e = .returned (.int .i64 (partE 1 nm nu n)) ∧ Below w.heap.size w w' := by
 have e0 : needsTab.getD ((1 : Int).toNat) 0 = 0 := rfl
 unfold partE
 rw [if_neg (by omega), e0]
 rw [if_neg (fun h => by omega)]
 by_cases hu : nu = 0
 rotate_left
 ·
  rw [if_pos ⟨hu, by omega, by omega, by omega⟩]; exact part_1u nm nu A n c w hL (eq_false hu)
 rw [if_neg (fun h => h.1 hu)]
 rw [if_neg (fun h => by omega)]
 by_cases ha : 0 < (n : Int)
 ·
  rw [if_pos ha]; exact part_1a nm nu A n c w hL hu (decide_eq_true ha)
 rw [if_neg ha]
 by_cases hb : (n : Int) = 0
 rotate_left
 ·
  omega
 rw [if_neg (fun h => h.2 hb)]
 exact part_1z nm nu A n c w hL hu (by omega)
theorem part_2 (nm : ByteArray) (nu : Int) (A : Option Addr) (n c : Nat) (w : World) (hL : NeedsLaid w) :
  Calls Tryd.prog 47 #[.agg #[.int .i64 2, .string nm, .int .i64 nu, .slice A n c]] w fun e w' => e = .returned (.int .i64 (partE 2 nm nu n)) ∧ Below w.heap.size w w' := by
 have e0 : needsTab.getD ((2 : Int).toNat) 0 = 0 := rfl
 unfold partE
 rw [if_neg (by omega), e0]
 by_cases hs : nm.toList.isEmpty = false
 ·
  rw [if_pos ⟨hs, by omega, by omega⟩]; exact part_2n nm nu A n c w hL hs
 rw [if_neg (fun h => hs h.1)]
 have hs : nm.toList.isEmpty = true := by simpa using hs
 rw [if_neg (fun h => by omega)]
 by_cases hm : nu < 0
 ·
  rw [if_pos ⟨rfl, hm⟩]; exact part_2m nm nu A n c w hL hs (decide_eq_true hm)
 rw [if_neg (fun h => hm h.2)]
 by_cases ha : 0 < (n : Int)
 ·
  rw [if_pos ha]; exact part_2a nm nu A n c w hL hs (decide_eq_false hm) (decide_eq_true ha)
 rw [if_neg ha]
 by_cases hb : (n : Int) = 0
 rotate_left
 ·
  omega
 rw [if_neg (fun h => h.2 hb)]
 exact part_2z nm nu A n c w hL hs (decide_eq_false hm) (by omega)
theorem part_3 (nm : ByteArray) (nu : Int) (A : Option Addr) (n c : Nat) (w : World) (hL : NeedsLaid w) :
  Calls Tryd.prog 47 #[.agg #[.int .i64 3, .string nm, .int .i64 nu, .slice A n c]] w fun e w' => e = .returned (.int .i64 (partE 3 nm nu n)) ∧ Below w.heap.size w w' := by
 have e0 : needsTab.getD ((3 : Int).toNat) 0 = 8 := rfl
 unfold partE
 rw [if_neg (by omega), e0]
 rw [if_neg (fun h => by omega)]
 by_cases hu : nu = 0
 rotate_left
 ·
  rw [if_pos ⟨hu, by omega, by omega, by omega⟩]; exact part_3u nm nu A n c w hL (eq_false hu)
 rw [if_neg (fun h => h.1 hu)]
 rw [if_neg (fun h => by omega)]
 by_cases ha : 8 < (n : Int)
 ·
  rw [if_pos ha]; exact part_3a nm nu A n c w hL hu (decide_eq_true ha)
 rw [if_neg ha]
 rw [if_neg (fun h => by omega)]
 exact part_3z nm nu A n c w hL hu (decide_eq_false ha)
theorem part_4 (nm : ByteArray) (nu : Int) (A : Option Addr) (n c : Nat) (w : World) (hL : NeedsLaid w) :
  Calls Tryd.prog 47 #[.agg #[.int .i64 4, .string nm, .int .i64 nu, .slice A n c]] w fun e w' => e = .returned (.int .i64 (partE 4 nm nu n)) ∧ Below w.heap.size w w' := by
 have e0 : needsTab.getD ((4 : Int).toNat) 0 = 0 := rfl
 unfold partE
 rw [if_neg (by omega), e0]
 by_cases hs : nm.toList.isEmpty = false
 ·
  rw [if_pos ⟨hs, by omega, by omega⟩]; exact part_4n nm nu A n c w hL hs
 rw [if_neg (fun h => hs h.1)]
 have hs : nm.toList.isEmpty = true := by simpa using hs
 rw [if_neg (fun h => by omega)]
 rw [if_neg (fun h => by omega)]
 by_cases ha : 0 < (n : Int)
 ·
  rw [if_pos ha]; exact part_4a nm nu A n c w hL hs (decide_eq_true ha)
 rw [if_neg ha]
 by_cases hb : (n : Int) = 0
 rotate_left
 ·
  omega
 rw [if_neg (fun h => h.2 hb)]
 exact part_4z nm nu A n c w hL hs (by omega)
theorem part_5 (nm : ByteArray) (nu : Int) (A : Option Addr) (n c : Nat) (w : World) (hL : NeedsLaid w) :
  Calls Tryd.prog 47 #[.agg #[.int .i64 5, .string nm, .int .i64 nu, .slice A n c]] w fun e w' => e = .returned (.int .i64 (partE 5 nm nu n)) ∧ Below w.heap.size w w' := by
 have e0 : needsTab.getD ((5 : Int).toNat) 0 = 2 := rfl
 unfold partE
 rw [if_neg (by omega), e0]
 by_cases hs : nm.toList.isEmpty = false
 ·
  rw [if_pos ⟨hs, by omega, by omega⟩]; exact part_5n nm nu A n c w hL hs
 rw [if_neg (fun h => hs h.1)]
 have hs : nm.toList.isEmpty = true := by simpa using hs
 by_cases hu : nu = 0
 rotate_left
 ·
  rw [if_pos ⟨hu, by omega, by omega, by omega⟩]; exact part_5u nm nu A n c w hL hs (eq_false hu)
 rw [if_neg (fun h => h.1 hu)]
 rw [if_neg (fun h => by omega)]
 by_cases ha : 2 < (n : Int)
 ·
  rw [if_pos ha]; exact part_5a nm nu A n c w hL hs hu (decide_eq_true ha)
 rw [if_neg ha]
 by_cases hb : (n : Int) = 2
 rotate_left
 ·
  rw [if_pos ⟨by omega, hb⟩]; exact part_5b nm nu A n c w hL hs hu (decide_eq_false ha) (by simpa using hb)
 rw [if_neg (fun h => h.2 hb)]
 exact part_5z nm nu A n c w hL hs hu (by omega)
theorem part_6 (nm : ByteArray) (nu : Int) (A : Option Addr) (n c : Nat) (w : World) (hL : NeedsLaid w) :
  Calls Tryd.prog 47 #[.agg #[.int .i64 6, .string nm, .int .i64 nu, .slice A n c]] w fun e w' => e = .returned (.int .i64 (partE 6 nm nu n)) ∧ Below w.heap.size w w' := by
 have e0 : needsTab.getD ((6 : Int).toNat) 0 = 2 := rfl
 unfold partE
 rw [if_neg (by omega), e0]
 by_cases hs : nm.toList.isEmpty = false
 ·
  rw [if_pos ⟨hs, by omega, by omega⟩]; exact part_6n nm nu A n c w hL hs
 rw [if_neg (fun h => hs h.1)]
 have hs : nm.toList.isEmpty = true := by simpa using hs
 by_cases hu : nu = 0
 rotate_left
 ·
  rw [if_pos ⟨hu, by omega, by omega, by omega⟩]; exact part_6u nm nu A n c w hL hs (eq_false hu)
 rw [if_neg (fun h => h.1 hu)]
 rw [if_neg (fun h => by omega)]
 by_cases ha : 2 < (n : Int)
 ·
  rw [if_pos ha]; exact part_6a nm nu A n c w hL hs hu (decide_eq_true ha)
 rw [if_neg ha]
 by_cases hb : (n : Int) = 2
 rotate_left
 ·
  rw [if_pos ⟨by omega, hb⟩]; exact part_6b nm nu A n c w hL hs hu (decide_eq_false ha) (by simpa using hb)
 rw [if_neg (fun h => h.2 hb)]
 exact part_6z nm nu A n c w hL hs hu (by omega)
theorem part_7 (nm : ByteArray) (nu : Int) (A : Option Addr) (n c : Nat) (w : World) (hL : NeedsLaid w) :
  Calls Tryd.prog 47 #[.agg #[.int .i64 7, .string nm, .int .i64 nu, .slice A n c]] w fun e w' => e = .returned (.int .i64 (partE 7 nm nu n)) ∧ Below w.heap.size w w' := by
 have e0 : needsTab.getD ((7 : Int).toNat) 0 = 1 := rfl
 unfold partE
 rw [if_neg (by omega), e0]
 by_cases hs : nm.toList.isEmpty = false
 ·
  rw [if_pos ⟨hs, by omega, by omega⟩]; exact part_7n nm nu A n c w hL hs
 rw [if_neg (fun h => hs h.1)]
 have hs : nm.toList.isEmpty = true := by simpa using hs
 by_cases hu : nu = 0
 rotate_left
 ·
  rw [if_pos ⟨hu, by omega, by omega, by omega⟩]; exact part_7u nm nu A n c w hL hs (eq_false hu)
 rw [if_neg (fun h => h.1 hu)]
 rw [if_neg (fun h => by omega)]
 by_cases ha : 1 < (n : Int)
 ·
  rw [if_pos ha]; exact part_7a nm nu A n c w hL hs hu (decide_eq_true ha)
 rw [if_neg ha]
 by_cases hb : (n : Int) = 1
 rotate_left
 ·
  rw [if_pos ⟨by omega, hb⟩]; exact part_7b nm nu A n c w hL hs hu (decide_eq_false ha) (by simpa using hb)
 rw [if_neg (fun h => h.2 hb)]
 exact part_7z nm nu A n c w hL hs hu (by omega)
theorem part_8 (nm : ByteArray) (nu : Int) (A : Option Addr) (n c : Nat) (w : World) (hL : NeedsLaid w) :
  Calls Tryd.prog 47 #[.agg #[.int .i64 8, .string nm, .int .i64 nu, .slice A n c]] w fun e w' => e = .returned (.int .i64 (partE 8 nm nu n)) ∧ Below w.heap.size w w' := by
 have e0 : needsTab.getD ((8 : Int).toNat) 0 = 1 := rfl
 unfold partE
 rw [if_neg (by omega), e0]
 by_cases hs : nm.toList.isEmpty = false
 ·
  rw [if_pos ⟨hs, by omega, by omega⟩]; exact part_8n nm nu A n c w hL hs
 rw [if_neg (fun h => hs h.1)]
 have hs : nm.toList.isEmpty = true := by simpa using hs
 rw [if_neg (fun h => by omega)]
 rw [if_neg (fun h => by omega)]
 by_cases ha : 1 < (n : Int)
 ·
  rw [if_pos ha]; exact part_8a nm nu A n c w hL hs (decide_eq_true ha)
 rw [if_neg ha]
 by_cases hb : (n : Int) = 1
 rotate_left
 ·
  rw [if_pos ⟨by omega, hb⟩]; exact part_8b nm nu A n c w hL hs (decide_eq_false ha) (by simpa using hb)
 rw [if_neg (fun h => h.2 hb)]
 exact part_8z nm nu A n c w hL hs (by omega)
theorem part_any (op : Int) (nm : ByteArray) (nu : Int) (A : Option Addr) (n c : Nat) (w : World) (hL : NeedsLaid w) :
  Calls Tryd.prog 47 #[.agg #[.int .i64 op, .string nm, .int .i64 nu, .slice A n c]] w fun e w' => e = .returned (.int .i64 (partE op nm nu n)) ∧ Below w.heap.size w w' := by
 by_cases ho : op < 1 ∨ 8 < op
 ·
  unfold partE
  rw [if_pos ho]
  exact part_out op nm nu A n c w ho
 ·
  have h8 : op = 1 ∨ op = 2 ∨ op = 3 ∨ op = 4 ∨ op = 5 ∨ op = 6 ∨ op = 7 ∨ op = 8 := by omega
  rcases h8 with rfl | rfl | rfl | rfl | rfl | rfl | rfl | rfl
  ·
   exact part_1 nm nu A n c w hL
  ·
   exact part_2 nm nu A n c w hL
  ·
   exact part_3 nm nu A n c w hL
  ·
   exact part_4 nm nu A n c w hL
  ·
   exact part_5 nm nu A n c w hL
  ·
   exact part_6 nm nu A n c w hL
  ·
   exact part_7 nm nu A n c w hL
  ·
   exact part_8 nm nu A n c w hL

def term_part.f (a0_0 : Int) (a0_1 : ByteArray) (a0_2 : Int) (l0_3 : List S29) : Option Int := some (partE a0_0 a0_1 a0_2 l0_3.length)
theorem term_part.calls (a0_0 : Int) (a0_1 : ByteArray) (a0_2 : Int) (A0_3 : Option Addr) (c0_3 : Nat) (l0_3 : List S29) (r : Int) (w : World) (hr0_3 : Kd.C k29 w A0_3 l0_3.length l0_3) (hc0_3 : l0_3.length ≤ c0_3) (hLa : LaidW w) (h : term_part.f a0_0 a0_1 a0_2 l0_3 = some r) :
  Calls Tryd.prog 47 #[.agg #[.int .i64 a0_0, .string a0_1, .int .i64 a0_2, .slice A0_3 l0_3.length c0_3]] w fun e w' => e = .returned (.int .i64 r) ∧ Below w.heap.size w w' := by
 obtain rfl := Option.some.inj h
 exact part_any _ _ _ _ _ _ w hLa.needs


end Go.Proofs.YtjmbdejejlcklaaDoor.Print
