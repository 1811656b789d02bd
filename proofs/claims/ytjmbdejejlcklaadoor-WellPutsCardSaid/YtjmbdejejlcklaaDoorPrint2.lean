-- Written by this session's own program over the kit's printer: externals and laid facts are by hand. Not trusted: Lean checks it.
import Derived.Test.YtjmbdejejlcklaaDoorPrint0
import Derived.Test.YtjmbdejejlcklaaDoorPrint1
namespace Go.Proofs.YtjmbdejejlcklaaDoor.Print
open Go.Proofs.YtjmbdejejlcklaaDoor.Aux Go.Proofs.YtjmbdejejlcklaaDoor.Spec
open Go.RowKit Go.Proofs.YtjmbdejejlcklaaDoorW.PrintWords Go.Proofs.YtjmbdejejlcklaaDoorW.PrintLast Go.Proofs.YtjmbdejejlcklaaDoorW.PrintMore
attribute [local go_sem] max2_int min2_int max_two min_two max_three min_three max_four min_four   -- for this text's walks alone
set_option linter.unusedVariables false
set_option linter.unusedSimpArgs false

/-! ### term_Right: function 24 -/
-- EXT sequitur/term.Right; making=1
mutual
/-- How deep a term is. -/
def depT : S29 → Nat
 | ⟨_, _, _, l⟩ => depL l + 1
def depL : List S29 → Nat
 | [] => 0
 | x :: l => max (depT x) (depL l)
end
theorem depT_eq (x : S29) : depT x = depL x.f3 + 1 := by cases x; rfl
theorem depL_snoc (x : S29) : ∀ l : List S29, depL (l ++ [x]) = max (depL l) (depT x)
 | [] => by simp [depL]
 | y :: l => by rw [List.cons_append, depL, depL, depL_snoc x l, Nat.max_assoc]
theorem depL_take (l : List S29) (i : Nat) (h : i < l.length) : depL (l.take (i + 1)) = max (depL (l.take i)) (depT l[i]) := by
 rw [List.take_succ_eq_append_getElem h, depL_snoc]
mutual
/-- All rows of parts are as long as memory lets. -/
def lenT : S29 → Prop
 | ⟨_, _, _, l⟩ => l.length ≤ 9223372036854775807 ∧ lenL l
def lenL : List S29 → Prop
 | [] => True
 | x :: l => lenT x ∧ lenL l
end
theorem lenT_eq (x : S29) : lenT x = (x.f3.length ≤ 9223372036854775807 ∧ lenL x.f3) := by cases x; rfl
theorem lenL_iff : ∀ l : List S29, lenL l ↔ ∀ (i : Nat) (h : i < l.length), lenT l[i]
 | [] => by simp [lenL]
 | x :: l => by
  rw [lenL, lenL_iff l]
  constructor
  ·
   rintro ⟨h0, h1⟩ i hi
   cases i with
   | zero => exact h0
   | succ i => exact h1 i (by simpa using hi)
  ·
   intro h
   exact ⟨h 0 (by simp), fun i hi => h (i + 1) (by simpa using hi)⟩
theorem lenL_of (w : World) : ∀ (d : Nat) (l : List S29), SizeOf.sizeOf l ≤ d → ∀ A, Kd.C k29 w A l.length l → lenL l
 | 0, l, hd, A, h => by cases l <;> simp at hd
 | d + 1, l, hd, A, h => by
  rw [lenL_iff]
  intro i hi
  obtain ⟨ad, A3, c3, _, _, _, _, _, _, hc⟩ := arg_at h (Below.refl _ _) i hi
  rw [lenT_eq]
  have h1 := List.sizeOf_lt_of_mem (List.getElem_mem hi)
  have h2 : SizeOf.sizeOf (l[i]).f3 < SizeOf.sizeOf l[i] := by
   generalize l[i] = y
   cases y
   simp
   omega
  exact ⟨hc.2.1, lenL_of w d _ (by omega) A3 hc⟩
theorem rd29 (l : List S29) (i : Nat) (h : i < l.length) : rd_T29 l (i : Int) = l[i] := by
 unfold rd_T29
 rw [Int.toNat_natCast, List.getD_eq_getElem?_getD, List.getElem?_eq_getElem h]; rfl
theorem wrap_i {x : Int} (h0 : -9223372036854775808 ≤ x) (h1 : x ≤ 9223372036854775807) : wrap64 x = x := by
 unfold wrap64; omega
theorem ev_get {α : Type} {a : Nat → Option α} {r s : α} (h : Ev a r) (e : r = s) : Ev a s := e ▸ h
theorem depth_ev : ∀ (d : Nat) (x : S29), SizeOf.sizeOf x ≤ d → lenT x → ∀ m : Nat, 1 ≤ m → m ≤ 65 → Ev (fun k => term_depth.f k x.f0 x.f1 x.f2 x.f3 (m : Int)) ((min (depT x) m : Nat) : Int)
 | 0, x, hd, _, _, _, _ => by cases x; simp at hd
 | d + 1, x, hd, hl, m, h1, h2 => by
  rw [lenT_eq, lenL_iff] at hl
  rw [depT_eq]
  by_cases hm : m = 1
  ·
   subst hm
   refine Ev.step (f := fun _ => some (1 : Int)) (fun k => ?_) (ev_get (Ev.now _) (by omega))
   simp only [term_depth.f]
   rfl
  ·
   have loop : ∀ (e i : Nat), i + e = x.f3.length → Ev (fun k => term_depth.l0 k (m : Int) ((min (depL (x.f3.take i)) (m - 1) : Nat) : Int) x.f3 (x.f3.length : Int) (i : Int)) ((min (depL x.f3 + 1) m : Nat) : Int) := by
    intro e
    induction e with
    | zero =>
     intro i hi
     refine Ev.step (f := fun _ => some _) (fun k => ?_) (Ev.now _)
     simp only [term_depth.l0]
     rw [if_neg (by omega), List.take_of_length_le (by omega), wrap_i (by omega) (by omega)]
     congr 1
     omega
    | succ e ih =>
     intro i hi
     have hlt : i < x.f3.length := by omega
     have hs := List.sizeOf_lt_of_mem (List.getElem_mem hlt)
     have hsx : SizeOf.sizeOf x.f3 < SizeOf.sizeOf x := by cases x; simp; omega
     have hin := depth_ev d x.f3[i] (by omega) (hl.2 i hlt) (m - 1) (by omega) (by omega)
     have e2 : mx ((min (depL (x.f3.take i)) (m - 1) : Nat) : Int) ((min (depT x.f3[i]) (m - 1) : Nat) : Int) = ((min (max (depL (x.f3.take i)) (depT x.f3[i])) (m - 1) : Nat) : Int) := by
      unfold mx
      split <;> omega
     have c1 : (i : Int) < (x.f3.length : Int) := by omega
     have c2 : (0 : Int) ≤ (i : Int) := by omega
     have ih2 := ih (i + 1) (by omega)
     rw [depL_take _ i hlt, ← e2] at ih2
     have hw : wrap64 ((m : Int) - 1) = ((m - 1 : Nat) : Int) := (wrap_i (by omega) (by omega)).trans (by omega)
     have hw2 : wrap64 ((i : Int) + 1) = ((i + 1 : Nat) : Int) := (wrap_i (by omega) (by omega)).trans (by omega)
     refine Ev.step (f := fun k => (term_depth.f k x.f3[i].f0 x.f3[i].f1 x.f3[i].f2 x.f3[i].f3 ((m - 1 : Nat) : Int)).bind fun t => term_depth.l0 k (m : Int) (mx ((min (depL (x.f3.take i)) (m - 1) : Nat) : Int) t) x.f3 (x.f3.length : Int) ((i + 1 : Nat) : Int)) (fun k => ?_) (Ev.bind hin ih2)
     simp only [term_depth.l0]
     rw [if_pos c1, if_pos c2, if_pos c1, rd29 _ i hlt, hw, hw2]
   refine Ev.step (fun k => ?_) (loop x.f3.length 0 (by omega))
   simp only [term_depth.f]
   rw [if_neg (by omega), List.take_zero]
   simp [depL]
theorem depth_any (x : S29) (A : Option Addr) (c : Nat) (w : World) (hl : x.f3.length ≤ c) (hC : Kd.C k29 w A x.f3.length x.f3) :
  Calls Tryd.prog 44 #[.agg #[.int .i64 x.f0, .string x.f1, .int .i64 x.f2, .slice A x.f3.length c]] w fun e W' => e = .returned (.int .i64 (min (depT x) 65 : Nat)) ∧ Below w.heap.size w W' := by
 have hlen : lenT x := by rw [lenT_eq]; exact ⟨hC.2.1, lenL_of w _ _ (Nat.le_refl _) A hC⟩
 obtain ⟨k, hk⟩ := Ev.rounds (depth_ev _ x (Nat.le_refl _) hlen 65 (by omega) (Nat.le_refl _))
 refine term_Depth.calls k _ _ _ _ _ _ _ w hC hl ?_
 unfold term_Depth.f
 rw [show ((65 : Nat) : Int) = 65 from rfl] at hk
 rw [hk]; rfl
section
open Go.Shelf
attribute [local go_sem] Oper.semAt_some
theorem keepsFrom_below {n₀ : Nat} {W W' : World} (h : Below n₀ W W') (hn : W.heap.size ≤ n₀) (B : Nat) : KeepsFrom B W W' :=
 ⟨h.size, fun k o _ hk _ => (h.block k (Nat.lt_of_lt_of_le (Array.getElem?_eq_some_iff.1 hk).1 hn)).trans hk⟩
theorem kpW_below {n₀ n₁ : Nat} {W W' : World} (h : Below W.heap.size W W') (hn : n₀ ≤ W.heap.size) : KpW n₀ n₁ W W' :=
 ⟨h.mono hn, fun k cs t _ hc => (h.block k (Array.getElem?_eq_some_iff.1 hc).1).trans hc⟩
/-- The first error of some parts. -/
def firstE : List (Int × ByteArray × Int × Nat) → Int
 | [] => 0
 | (op, nm, nu, n) :: l => if partE op nm nu n ≠ 0 then partE op nm nu n else firstE l
theorem firstE_append (b : List (Int × ByteArray × Int × Nat)) : ∀ l, firstE (l ++ b) = if firstE l ≠ 0 then firstE l else firstE b
 | [] => by simp [firstE]
 | (op, nm, nu, n) :: l => by
  rw [List.cons_append, firstE, firstE, firstE_append b l]
  by_cases h : partE op nm nu n ≠ 0
  ·
   rw [if_pos h, if_pos h, if_pos h]
  ·
   rw [if_neg h, if_neg h]
/-- What is wrong with a term. -/
def rightT (x : S29) : Int := if 64 < depT x then 6 else if 4096 < (keysT x).length then 2 else firstE (keysT x)
set_option maxRecDepth 100000 in
set_option maxHeartbeats 4000000 in
theorem right_deep (x : S29) (A : Option Addr) (c : Nat) (w : World) (hl : x.f3.length ≤ c) (hC : Kd.C k29 w A x.f3.length x.f3) (hd : 64 < depT x) :
  CallsIn Fence.wide 3 Tryd.prog 24 #[.agg #[.int .i64 x.f0, .string x.f1, .int .i64 x.f2, .slice A x.f3.length c]] w fun e W' => e = .returned (.int .i64 6) ∧ Below w.heap.size w W' := by
 have hdep := fun W hW => depth_any x A c W hl (Kd.C_below hC hW)
 rw [Nat.min_eq_right (show 65 ≤ depT x by omega)] at hdep
 obtain ⟨xop, xnm, xnu, xl⟩ := x
 dsimp only at hl hC hdep ⊢
 have HD := Aside0.mk hdep
 clear hdep hC hd
 refine callsIn_of_wp_marks Tryd.func24 rfl trivial ?_ rfl
 simp only [Tryd.ntmps24, List.size_toArray, List.length_cons, List.length_nil, Nat.reduceAdd, Nat.reduceSub, Array.replicate_succ, Array.replicate_zero, List.push_toArray, List.append_toArray, List.nil_append, List.cons_append]
 gi_wp2
 refine ⟨trivial, ?_⟩
 refine (callsIn_wide.2 (HD.out _ (below_alloc (below_alloc (Below.refl _ _) _) _))).mono ?_
 rintro e w1 ⟨rfl, hb⟩
 have x1 : w1.heap[w.heap.size + 1]? = some (.cells #[.int .i64 0] 34 (0, 0)) := blk_below (by simpa using blk_new (w.alloc (.cells #[.int .i64 xop, .string xnm, .int .i64 xnu, .slice A xl.length c] 29)) (.cells #[.int .i64 0] 34)) hb
 have c1 := (cells1 x1).1
 have c2 := (cells1 x1).2
 have hB : Below w.heap.size w w1 := below_step (below_alloc (below_alloc (Below.refl _ _) _) _) hb
 have HB := Aside0.mk hB
 have X1 := Aside0.mk x1
 clear hb hB x1
 gi_wp2
 refine ⟨.int .i64 6, ?_, rfl, below_set HB.out (by omega)⟩
 have hc5 := (cells1 (show (w1.setCell ⟨w.heap.size + 1, 0, none⟩ (.int .i64 6)).heap[w.heap.size + 1]? = _ from Boxed.set (t := 34) (.int .i64 6) X1.out)).1
 simp [results, Tryd.f24, go_sem, hc5]
set_option maxRecDepth 100000 in
set_option maxHeartbeats 4000000 in
theorem right_long (x : S29) (A : Option Addr) (c : Nat) (w : World) (hl : x.f3.length ≤ c) (hC : Kd.C k29 w A x.f3.length x.f3) (hd : ¬ 64 < depT x) (hs : 4096 < (keysT x).length) :
  CallsIn Fence.wide 3 Tryd.prog 24 #[.agg #[.int .i64 x.f0, .string x.f1, .int .i64 x.f2, .slice A x.f3.length c]] w fun e W' => e = .returned (.int .i64 2) ∧ Below w.heap.size w W' := by
 have hdep := fun W hW => depth_any x A c W hl (Kd.C_below hC hW)
 have hsz := fun W hW => term_Size.any x A c W hl (Kd.C_below hC hW)
 rw [Nat.min_eq_left (show depT x ≤ 65 by omega)] at hdep
 rw [show Nat.min (keysT x).length 4097 = 4097 from Nat.min_eq_right (by omega)] at hsz
 have hdd : decide (64 < depT x) = false := decide_eq_false hd
 have hdi : decide (64 < (depT x : Int)) = false := decide_eq_false (by omega)
 obtain ⟨dd, hde⟩ : ∃ dd, dd = depT x := ⟨_, rfl⟩
 rw [← hde] at hdep hdd hdi
 clear hde hd hs
 obtain ⟨xop, xnm, xnu, xl⟩ := x
 dsimp only at hl hC hdep hsz ⊢
 have HD := Aside0.mk hdep
 have HS := Aside0.mk hsz
 clear hdep hC hsz
 refine callsIn_of_wp_marks Tryd.func24 rfl trivial ?_ rfl
 simp only [Tryd.ntmps24, List.size_toArray, List.length_cons, List.length_nil, Nat.reduceAdd, Nat.reduceSub, Array.replicate_succ, Array.replicate_zero, List.push_toArray, List.append_toArray, List.nil_append, List.cons_append]
 gi_wp2
 refine ⟨trivial, ?_⟩
 refine (callsIn_wide.2 (HD.out _ (below_alloc (below_alloc (Below.refl _ _) _) _))).mono ?_
 rintro e w1 ⟨rfl, hb⟩
 have x0 : w1.heap[w.heap.size]? = some (.cells #[.int .i64 xop, .string xnm, .int .i64 xnu, .slice A xl.length c] 29 (0, 0)) := blk_below (blk_alloc (blk_new w _) _) hb
 have x1 : w1.heap[w.heap.size + 1]? = some (.cells #[.int .i64 0] 34 (0, 0)) := blk_below (by simpa using blk_new (w.alloc (.cells #[.int .i64 xop, .string xnm, .int .i64 xnu, .slice A xl.length c] 29)) (.cells #[.int .i64 0] 34)) hb
 obtain ⟨p0, p1, p2, p3, _⟩ := cells4 x0
 have hB : Below w.heap.size w w1 := below_step (below_alloc (below_alloc (Below.refl _ _) _) _) hb
 have HB := Aside0.mk hB
 have X1 := Aside0.mk x1
 clear hb hB x1 x0
 gi_wp2
 refine ⟨trivial, ?_⟩
 refine (callsIn_wide.2 (HS.out _ HB.out)).mono ?_
 rintro e w2 ⟨rfl, hb⟩
 have x1 : w2.heap[w.heap.size + 1]? = some (.cells #[.int .i64 0] 34 (0, 0)) := blk_below X1.out hb
 have c1 := (cells1 x1).1
 have c2 := (cells1 x1).2
 have hB : Below w.heap.size w w2 := below_step HB.out hb
 clear X1
 have HB2 := Aside0.mk hB
 have X1 := Aside0.mk x1
 clear hb hB x1 p0 p1 p2 p3
 gi_wp2
 refine ⟨.int .i64 2, ?_, rfl, below_set HB2.out (by omega)⟩
 have hc5 := (cells1 (show (w2.setCell ⟨w.heap.size + 1, 0, none⟩ (.int .i64 2)).heap[w.heap.size + 1]? = _ from Boxed.set (t := 34) (.int .i64 2) X1.out)).1
 simp [results, Tryd.f24, go_sem, hc5]
set_option maxRecDepth 100000 in
set_option maxHeartbeats 4000000 in
theorem right_walk (x : S29) (A : Option Addr) (c : Nat) (w : World) (hL : NeedsLaid w) (hl : x.f3.length ≤ c) (hC : Kd.C k29 w A x.f3.length x.f3) (hd : ¬ 64 < depT x) (hs : ¬ 4096 < (keysT x).length) :
  CallsIn Fence.wide 3 Tryd.prog 24 #[.agg #[.int .i64 x.f0, .string x.f1, .int .i64 x.f2, .slice A x.f3.length c]] w fun e W' => e = .returned (.int .i64 (firstE (keysT x))) ∧ Below w.heap.size w W' := by
 have hst := fun W (hW : Below w.heap.size w W) Bt hBt => all_stops Fence.wide rfl 2 trivial trivial rfl Bt W.heap.size w x A c W hBt hl hC hW (Nat.le_refl _)
 have hdep := fun W hW => depth_any x A c W hl (Kd.C_below hC hW)
 have hsz := fun W hW => term_Size.any x A c W hl (Kd.C_below hC hW)
 rw [Nat.min_eq_left (show depT x ≤ 65 by omega)] at hdep
 rw [show Nat.min (keysT x).length 4097 = (keysT x).length from Nat.min_eq_left (by omega)] at hsz
 have hdd : decide (64 < depT x) = false := decide_eq_false hd
 have hdi : decide (64 < (depT x : Int)) = false := decide_eq_false (by omega)
 have hss : decide (4096 < (keysT x).length) = false := decide_eq_false hs
 have hsi : decide (4096 < ((keysT x).length : Int)) = false := decide_eq_false (by omega)
 obtain ⟨dd, hde⟩ : ∃ dd, dd = depT x := ⟨_, rfl⟩
 rw [← hde] at hdep hdd hdi
 obtain ⟨ks, hks⟩ : ∃ ks, ks = keysT x := ⟨_, rfl⟩
 rw [← hks] at hsz hss hsi ⊢
 simp only [← hks] at hst
 clear hde hd hs hks
 obtain ⟨xop, xnm, xnu, xl⟩ := x
 dsimp only at hl hC hdep hsz hst ⊢
 have HD := Aside0.mk hdep
 have HS := Aside0.mk hsz
 have HST := Aside0.mk hst
 have HL := Aside0.mk hL
 clear hdep hC hsz hst hL
 refine callsIn_of_wp_marks Tryd.func24 rfl trivial ?_ rfl
 simp only [Tryd.ntmps24, List.size_toArray, List.length_cons, List.length_nil, Nat.reduceAdd, Nat.reduceSub, Array.replicate_succ, Array.replicate_zero, List.push_toArray, List.append_toArray, List.nil_append, List.cons_append]
 gi_wp2
 refine ⟨trivial, ?_⟩
 refine (callsIn_wide.2 (HD.out _ (below_alloc (below_alloc (Below.refl _ _) _) _))).mono ?_
 rintro e w1 ⟨rfl, hb⟩
 have x0 : w1.heap[w.heap.size]? = some (.cells #[.int .i64 xop, .string xnm, .int .i64 xnu, .slice A xl.length c] 29 (0, 0)) := blk_below (blk_alloc (blk_new w _) _) hb
 have x1 : w1.heap[w.heap.size + 1]? = some (.cells #[.int .i64 0] 34 (0, 0)) := blk_below (by simpa using blk_new (w.alloc (.cells #[.int .i64 xop, .string xnm, .int .i64 xnu, .slice A xl.length c] 29)) (.cells #[.int .i64 0] 34)) hb
 obtain ⟨p0, p1, p2, p3, _⟩ := cells4 x0
 have hB : Below w.heap.size w w1 := below_step (below_alloc (below_alloc (Below.refl _ _) _) _) hb
 have HB := Aside0.mk hB
 have X1 := Aside0.mk x1
 have X0 := Aside0.mk x0
 clear hb hB x1 x0
 gi_wp2
 refine ⟨trivial, ?_⟩
 refine (callsIn_wide.2 (HS.out _ HB.out)).mono ?_
 rintro e w2 ⟨rfl, hb⟩
 have x0 := blk_below X0.out hb
 have x1 := blk_below X1.out hb
 have hB : Below w.heap.size w w2 := below_step HB.out hb
 clear X1 X0 p0 p1 p2 p3 HB
 obtain ⟨p0, p1, p2, p3, _⟩ := cells4 x0
 have HB := Aside0.mk hB
 have X1 := Aside0.mk x1
 clear hb hB x1 x0
 gi_wp2_with (refine ⟨trivial, ?_⟩; gi_at_call 46; refine (all_in Fence.wide _ trivial rfl undef _ _ _ _ _ _ _).mono ?_; rintro e w' ⟨rfl, rfl⟩)
 have bR : Boxed (w2.alloc (.cells #[.int .i64 xop, .string xnm, .int .i64 xnu, .slice A xl.length c] 29)) (w.heap.size + 1) 34 (.int .i64 0) := Boxed.alloc (show Boxed w2 (w.heap.size + 1) 34 (.int .i64 0) from X1.out) _
 have hB0 : Below w.heap.size w (w2.alloc (.cells #[.int .i64 xop, .string xnm, .int .i64 xnu, .slice A xl.length c] 29)) := below_alloc HB.out _
 have hbt : (w2.alloc (.cells #[.int .i64 xop, .string xnm, .int .i64 xnu, .slice A xl.length c] 29)).heap[w2.heap.size]? = some (.cells #[.int .i64 xop, .string xnm, .int .i64 xnu, .slice A xl.length c] 29 (0, 0)) := blk_new _ _
 obtain ⟨W0, hW0⟩ : ∃ W0, w2.alloc (.cells #[.int .i64 xop, .string xnm, .int .i64 xnu, .slice A xl.length c] 29) = W0 := ⟨_, rfl⟩
 rw [hW0] at bR hB0 hbt ⊢
 clear hW0 X1 HB p0 p1 p2 p3
 have hbl := bR.lt
 refine wpIn_rangeFunc_ownH rfl (by omega) (gf := 79) (lb := #[.pointer (some ⟨w2.heap.size, 0, none⟩)]) rfl trivial (enters_of Tryd.func79 (by kernel_rfl) rfl)
  (HST.out W0 hB0 w2.heap.size hbt) kpW_t (kpW_b hB0.size) (Below.refl _ _) (fun _ => rfl)
  (fun pre W => (firstE (pre.map TP.key) = 0 ∧ Boxed W (w.heap.size + 1) 34 (.int .i64 0)) ∧ Below w.heap.size w W)
  (fun c pre W => ((c = .ret ∧ firstE (pre.map TP.key) ≠ 0) ∧ Boxed W (w.heap.size + 1) 34 (.int .i64 (firstE (pre.map TP.key)))) ∧ Below w.heap.size w W)
  (OwnFrom.and (OwnFrom.and (ownFrom_pure _ _) (Own.from (boxed_own _ _ _) _)) (ownFrom_below (Nat.le_refl _) hB0.size))
  (fun c => OwnFrom.and (OwnFrom.and (ownFrom_pure _ _) (Own.from (boxed_own _ _ _) _)) (ownFrom_below (Nat.le_refl _) hB0.size))
  ⟨⟨rfl, bR⟩, hB0⟩
  (fun x' a' W => ∃ Bx, w.heap.size + 1 < Bx ∧ W.heap[Bx]? = some (.cells #[.int .i64 x'.op, .string x'.nm, .int .i64 x'.nu, .slice x'.A x'.n x'.c] 29 (0, 0)) ∧ a' = { tmps := #[.agg #[.int .i64 xop, .string xnm, .int .i64 xnu, .slice A xl.length c], .pointer (some ⟨w.heap.size, 0, none⟩), .pointer (some ⟨w.heap.size + 1, 0, none⟩), .pointer (some ⟨Bx, 0, none⟩), undef, .bool false, .agg #[.int .i64 xop, .string xnm, .int .i64 xnu, .slice A xl.length c], .int .i64 dd, .bool false, .bool false, .agg #[.int .i64 xop, .string xnm, .int .i64 xnu, .slice A xl.length c], .int .i64 ks.length, .bool false, .agg #[.int .i64 xop, .string xnm, .int .i64 xnu, .slice A xl.length c], .func (.func 79) #[] #[.pointer (some ⟨w2.heap.size, 0, none⟩)], .agg #[.int .i64 x'.op, .string x'.nm, .int .i64 x'.nu, .slice x'.A x'.n x'.c], undef, undef, undef, undef, undef], defers := [] })
  (fun x' a' _ X Y row hs hg hr => by
   obtain ⟨Bx, e1, e2, e3⟩ := hs
   refine ⟨Bx, e1, (hg.block Bx (Array.getElem?_eq_some_iff.1 e2).1 (fun e => ?_)).trans e2, e3⟩
   obtain ⟨_, o, ho, hc⟩ := hr Bx e.symm
   rw [e2] at ho
   cases ho
   cases hc)
  ?assign ?body ?done ?stop
 case assign =>
  rintro l pre x' W K ⟨⟨hp, bR1⟩, hB1⟩ hK
  have hlt := bR1.lt
  simp [TP.encs]
  gi_wp2
  have hk2 := hK _ _ ((KeepsOthers.alloc _ _).from _) ⟨(Below.refl _ W).alloc hB1.size _, fun k cs t _ hc => (Below.heap_alloc W _ k (Array.getElem?_eq_some_iff.1 hc).1).trans hc⟩ ⟨⟨hp, bR1.alloc _⟩, hB1.alloc hB1.size _⟩ ⟨W.heap.size, by omega, blk_new _ _, rfl⟩
  simpa [TP.encs] using hk2
 case body =>
  rintro l pre x' a' W hl' ⟨r, hr⟩ ⟨⟨hp, bR1⟩, hB1⟩ ⟨Bx, hBx, bX, rfl⟩ hlt
  obtain ⟨q0, q1, q2, q3, _⟩ := cells4 bX
  have hpart := part_any x'.op x'.nm x'.nu x'.A x'.n x'.c W (HL.out.below hB1)
  have hfe : firstE ((pre ++ [x']).map TP.key) = partE x'.op x'.nm x'.nu x'.n := by
   rw [List.map_append, firstE_append, if_neg (by rw [hp]; simp)]
   show (if partE x'.op x'.nm x'.nu x'.n ≠ 0 then _ else (0 : Int)) = _
   split
   ·
    rfl
   ·
    rename_i h; simp at h; exact h.symm
  generalize partE x'.op x'.nm x'.nu x'.n = e0 at hpart hfe
  have HP := Aside0.mk hpart
  have HF := Aside0.mk hfe
  have HPP := Aside0.mk hp
  have BR := Aside0.mk bR1
  clear hpart hfe hp bX hr
  by_cases he : e0 = 0
  ·
   subst he
   gi_wp2
   refine ⟨trivial, ?_⟩
   refine (CallsIn.inRound l (callsIn_wide.2 HP.out)).mono ?_
   rintro e w3 ⟨rfl, hb⟩
   have HB3 := Aside0.mk hb
   clear hb
   gi_wp2
   exact ⟨keepsFrom_below HB3.out (Nat.le_refl _) _, kpW_below HB3.out hB1.size, ⟨HF.out, blk_below (o := .cells #[.int .i64 0] 34 (0, 0)) BR.out HB3.out⟩, below_step hB1 HB3.out⟩
  ·
   have he1 : (e0 = 0) = False := eq_false he
   have he2 : (e0 == 0) = false := by simpa using he
   have HE := Aside0.mk he
   clear he
   gi_wp2
   refine ⟨trivial, ?_⟩
   refine (CallsIn.inRound l (callsIn_wide.2 HP.out)).mono ?_
   rintro e w3 ⟨rfl, hb⟩
   have x1 : w3.heap[w.heap.size + 1]? = some (.cells #[.int .i64 0] 34 (0, 0)) := blk_below BR.out hb
   obtain ⟨s1, s2⟩ := cells1 x1
   have HB3 := Aside0.mk hb
   have X1 := Aside0.mk x1
   clear hb x1
   gi_wp2
   exact ⟨(keepsFrom_below HB3.out (Nat.le_refl _) _).trans ((KeepsOthers.setCell _ _ _).from _), ⟨⟨rfl, by rw [HF.out]; exact HE.out⟩, by rw [HF.out]; exact Boxed.set (t := 34) (v := .int .i64 0) _ X1.out⟩, below_set (below_step hB1 HB3.out) (by omega)⟩
 case done =>
  rintro D ys W hD hS ⟨⟨hp, bR1⟩, hB1⟩ hK
  have hfe : firstE ks = 0 := by rw [← hS]; exact hp
  have HF := Aside0.mk hfe
  have cR := bR1.cell
  have fR := bR1.frozen
  clear hS hp hfe
  gi_wp2
  have hK' := (KeepsOthers.setCell W ⟨w.heap.size + 1, 0, none⟩ (.int .i64 0)).same D _ hK rfl
  refine ⟨by simp, .inl ⟨_, _, rfl, run_takeDeferred hK', ?_⟩⟩
  have hc5 := cell_kept (bR1.set (.int .i64 0)).cell (grownBy_putObj' _ D (.deferred none)) (fun r e => by cases e; exact ⟨_, hK', rfl⟩)
  refine ⟨.int .i64 0, ?_, by rw [HF.out], (hB1.setCell (p := ⟨w.heap.size + 1, 0, none⟩) (by simp) _).trans (belowK_b (w := w) (Nat.le_refl _) _ D _ _ (by have := hB0.size; omega) hK' rfl rfl)⟩
  simp [results, Tryd.f24, go_sem, hc5]
 case stop =>
  rintro D c pre W hD hS ⟨⟨⟨rfl, hp⟩, bR1⟩, hB1⟩ hK
  have hfe : firstE ks = firstE (pre.map TP.key) := by
   obtain ⟨r, hr⟩ := hS
   rw [← hr, firstE_append, if_pos hp]
  have HF := Aside0.mk hfe
  clear hS hp hfe
  gi_wp2
  refine ⟨by simp, .inl ⟨_, _, rfl, run_takeDeferred hK, ?_⟩⟩
  have hc5 := cell_kept bR1.cell (grownBy_putObj' _ D (.deferred none)) (fun r e => by cases e; exact ⟨_, hK, rfl⟩)
  refine ⟨_, ?_, by rw [HF.out], hB1.trans (belowK_b (w := w) (Nat.le_refl _) W D _ _ (by have := hB0.size; omega) hK rfl rfl)⟩
  simp [results, Tryd.f24, go_sem, hc5]
theorem right_any (x : S29) (A : Option Addr) (c : Nat) (w : World) (hL : NeedsLaid w) (hl : x.f3.length ≤ c) (hC : Kd.C k29 w A x.f3.length x.f3) :
  Calls Tryd.prog 24 #[.agg #[.int .i64 x.f0, .string x.f1, .int .i64 x.f2, .slice A x.f3.length c]] w fun e W' => e = .returned (.int .i64 (rightT x)) ∧ Below w.heap.size w W' := by
 unfold rightT
 by_cases hd : 64 < depT x
 ·
  rw [if_pos hd]; exact callsIn_wide.1 (right_deep x A c w hl hC hd)
 ·
  rw [if_neg hd]
  by_cases hs : 4096 < (keysT x).length
  ·
   rw [if_pos hs]; exact callsIn_wide.1 (right_long x A c w hl hC hd hs)
  ·
   rw [if_neg hs]; exact callsIn_wide.1 (right_walk x A c w hL hl hC hd hs)
end
def term_Right.f (a0_0 : Int) (a0_1 : ByteArray) (a0_2 : Int) (l0_3 : List S29) : Option Int := some (rightT ⟨a0_0, a0_1, a0_2, l0_3⟩)
theorem term_Right.calls (a0_0 : Int) (a0_1 : ByteArray) (a0_2 : Int) (A0_3 : Option Addr) (c0_3 : Nat) (l0_3 : List S29) (r : Int) (w : World) (hr0_3 : Kd.C k29 w A0_3 l0_3.length l0_3) (hc0_3 : l0_3.length ≤ c0_3) (hLa : LaidW w) (h : term_Right.f a0_0 a0_1 a0_2 l0_3 = some r) :
  Calls Tryd.prog 24 #[.agg #[.int .i64 a0_0, .string a0_1, .int .i64 a0_2, .slice A0_3 l0_3.length c0_3]] w fun e w' => e = .returned (.int .i64 r) ∧ Below w.heap.size w w' := by
 obtain rfl := Option.some.inj h
 exact right_any ⟨a0_0, a0_1, a0_2, l0_3⟩ A0_3 c0_3 w hLa.needs hc0_3 hr0_3

/-! ### well_of: function 25 -/
-- EXT sequitur/well.of; kind=0


/-! ### well_down: function 67 -/
-- EXT sequitur/well.down; kind=0


/-! ### well_room_all: function 51 -/
-- EXT (sequitur/well.room).all; kind=0


/-! ### sign_Find: function 35 -/
def sign_Find.l0 : Nat → ByteArray → List (S63) → Int → Int → Option (ByteArray × List ByteArray × ByteArray × Bool)
 | 0, _, _, _, _ => none
 | k + 1, x1, x9, x10, x11 => if x11 < x10 then (if 0 ≤ x11 then (if x11 < (x9.length : Int) then (if ((rd_T63 x9 x11).f0).toList = x1.toList then (some ((rd_T63 x9 x11).f0, (rd_T63 x9 x11).f1, (rd_T63 x9 x11).f2, true)) else (sign_Find.l0 k x1 x9 x10 (wrap64 (x11 + 1)))) else (none)) else (none)) else (some ((⟨#[]⟩ : ByteArray), ([] : List ByteArray), (⟨#[]⟩ : ByteArray), false))
def sign_Find.f (k : Nat) (l0_0 : List ByteArray) (l0_1 : List (S63)) (a1 : ByteArray) : Option (ByteArray × List ByteArray × ByteArray × Bool) := sign_Find.l0 k a1 l0_1 (l0_1.length : Int) 0
theorem sign_Find.mono_l : ∀ k, (∀ y0 y1 y2 y3, LeO (sign_Find.l0 k y0 y1 y2 y3) (sign_Find.l0 (k + 1) y0 y1 y2 y3))
 | 0 => fun _ _ _ _ r h => by simp [sign_Find.l0] at h
 | k + 1 => by
  have ih0 := sign_Find.mono_l k
  ·
   intro y0 y1 y2 y3
   unfold sign_Find.l0
   repeat' first
   | (with_reducible exact ih0 _ _ _ _)
   | (with_reducible exact LeO.refl _)
   | (with_reducible exact LeO.none _)
   | (with_reducible refine LeO.ite ?_ ?_)
   | (with_reducible refine LeO.bind ?_ (fun _ => ?_))
   | exact ih0 _ _ _ _
   | exact LeO.none _
   | refine LeO.ite ?_ ?_
   | refine LeO.bind ?_ (fun _ => ?_)
theorem sign_Find.mono : ∀ a0 a1 a2 k, LeO (sign_Find.f k a0 a1 a2) (sign_Find.f (k + 1) a0 a1 a2) := by
 intro a0 a1 a2 k
 have ih0 := sign_Find.mono_l k
 unfold sign_Find.f
 repeat' first
   | (with_reducible exact ih0 _ _ _ _)
   | (with_reducible exact LeO.refl _)
   | (with_reducible exact LeO.none _)
   | (with_reducible refine LeO.ite ?_ ?_)
   | (with_reducible refine LeO.bind ?_ (fun _ => ?_))
   | exact ih0 _ _ _ _
   | exact LeO.none _
   | refine LeO.ite ?_ ?_
   | refine LeO.bind ?_ (fun _ => ?_)
set_option maxHeartbeats 8000000 in
set_option maxRecDepth 100000 in
theorem sign_Find.calls (k : Nat) (A0_0 : Option Addr) (c0_0 : Nat) (l0_0 : List ByteArray) (P0_1_ : Nat → Prop) (A0_1 : Option Addr) (c0_1 : Nat) (l0_1 : List (S63)) (a1 : ByteArray) (r1 : ByteArray) (r2 : List ByteArray) (r3 : ByteArray) (r4 : Bool) (w : World) (hr0_0 : Kd.C Kd.string w A0_0 l0_0.length l0_0) (hc0_0 : l0_0.length ≤ c0_0) (hs0_1 : Kd.V k63 63 w w.heap.size (fun k_ => P0_1_ k_) (.slice A0_1 l0_1.length c0_1) l0_1) (h : sign_Find.f k l0_0 l0_1 a1 = some (r1, r2, r3, r4)) :
  Calls Tryd.prog 35 #[.agg #[.slice A0_0 l0_0.length c0_0, .slice A0_1 l0_1.length c0_1], .string a1] w fun e w' => ∃ v1_ : Value, e = .returned (.tuple #[.agg #[.string r1, v1_, .string r3], .bool r4]) ∧ Kd.V Kd.string 9 w' w.heap.size (fun k_ => (P0_1_ k_ ∨ w.heap.size ≤ k_)) v1_ r2 ∧ Below w.heap.size w w' := by
 have hu25 := Tryd.underlying25
 have hu63 := Tryd.underlying63
 have HR0_0 := Aside0.mk hr0_0
 have HC0_0 := Aside0.mk hc0_0
 clear hr0_0 hc0_0
 have HO0_1 := Aside0.mk (show Kd.V k63 63 w w.heap.size (fun k_ => (P0_1_ k_ ∨ w.heap.size ≤ k_)) (.slice A0_1 l0_1.length c0_1) l0_1 from Kd.V_mono hs0_1 (fun k_ hk => .inl hk))
 have HB := Aside0.mk (Below.refl w.heap.size w)
 have H : (sign_Find.l0 k a1 l0_1 (l0_1.length : Int) 0) = some (r1, r2, r3, r4) := h
 clear h
 have H' := Aside0.mk H
 clear H
 go_enter Tryd.func35, Tryd.ntmps35
 go_wp2_with (first | ((with_reducible refine gate_dst (N := 2) rfl ?_); refine box_event ?hg (N := 2) ?hd (cs := #[.slice A0_0 l0_0.length c0_0, .slice A0_1 l0_1.length c0_1]) (t := 25) ?hr ?_; (case hd => rfl); (case hg => rfl); (case hr => first | (go_simp; done) | (go_simp; rfl)); intro gb112 hg w3 hbox hb; have n0_ := Aside0.mk (Kd.V_below (Kd.V_elderB (by (with_reducible repeat (first | apply Kd.V_alloc | apply Kd.V_drewN | apply Kd.V_drew)); exact HO0_1.out) gb112 (Nat.le_of_eq hg.symm)) hb); have n1_ := Aside0.mk (below_step (by repeat (first | (with_reducible first | exact HB.out | apply below_alloc | apply pw_below_drewN | apply below_drew1) | exact HB.out)) hb); have n2_ := Aside0.mk (hbox); have n3_ := Aside0.mk ((by rw [hg]; exact (below_size (by repeat (first | (with_reducible first | exact HB.out | apply below_alloc | apply pw_below_drewN | apply below_drew1) | exact HB.out))) : w.heap.size ≤ gb112)); have n4_ := Aside0.mk ((by rw [hg]; exact (below_size (by repeat (first | (with_reducible first | exact HB.out | apply below_alloc | apply pw_below_drewN | apply below_drew1) | exact HB.out))) : w.heap.size ≤ gb112)); clear HO0_1; clear HB; have HO0_1 := n0_; have HB := n1_; have BK112 := n2_; have GW112 := n3_; have GE112 := n4_; clear n0_ n1_ n2_ n3_ n4_; clear hb hbox hg) | ((with_reducible refine gate_dst (N := 4) rfl ?_); refine box_event ?hg (N := 4) ?hd (cs := #[.string (⟨#[]⟩ : ByteArray), .slice none 0 0, .string (⟨#[]⟩ : ByteArray)]) (t := 63) ?hr ?_; (case hd => rfl); (case hg => rfl); (case hr => first | (go_simp; done) | (go_simp; rfl)); intro gb113 hg w4 hbox hb; have n0_ := Aside0.mk (Kd.V_below (Kd.V_elderB (by (with_reducible repeat (first | apply Kd.V_alloc | apply Kd.V_drewN | apply Kd.V_drew)); exact HO0_1.out) gb113 (Nat.le_of_eq hg.symm)) hb); have n1_ := Aside0.mk (blk_below (g := gb112) (o := .cells #[.slice A0_0 l0_0.length c0_0, .slice A0_1 l0_1.length c0_1] 25 (0, 0)) (by (with_reducible repeat (first | refine blk_drewN ?_ _ | refine blk_drew ?_ | refine blk_alloc ?_ _)); exact BK112.out) hb); have n2_ := Aside0.mk (below_step (by repeat (first | (with_reducible first | exact HB.out | apply below_alloc | apply pw_below_drewN | apply below_drew1 | refine below_set ?_ GE112.out) | exact HB.out)) hb); have n3_ := Aside0.mk (hbox); have n4_ := Aside0.mk ((by rw [hg]; exact (below_size (by repeat (first | (with_reducible first | exact HB.out | apply below_alloc | apply pw_below_drewN | apply below_drew1 | refine below_set ?_ GE112.out) | exact HB.out))) : w.heap.size ≤ gb113)); have n5_ := Aside0.mk ((by rw [hg]; exact (below_size (by repeat (first | (with_reducible first | exact HB.out | apply below_alloc | apply pw_below_drewN | apply below_drew1 | refine below_set ?_ GE112.out) | exact HB.out))) : w.heap.size ≤ gb113)); have n6_ := Aside0.mk ((by rw [hg]; exact Nat.ne_of_lt (blk_lt (g := gb112) (o := .cells #[.slice A0_0 l0_0.length c0_0, .slice A0_1 l0_1.length c0_1] 25 (0, 0)) (by (with_reducible repeat (first | refine blk_drewN ?_ _ | refine blk_drew ?_ | refine blk_alloc ?_ _)); exact BK112.out)) : gb112 ≠ gb113)); have n7_ := Aside0.mk ((by rw [hg]; exact Nat.ne_of_gt (blk_lt (g := gb112) (o := .cells #[.slice A0_0 l0_0.length c0_0, .slice A0_1 l0_1.length c0_1] 25 (0, 0)) (by (with_reducible repeat (first | refine blk_drewN ?_ _ | refine blk_drew ?_ | refine blk_alloc ?_ _)); exact BK112.out)) : gb113 ≠ gb112)); clear HO0_1; clear BK112; clear HB; have HO0_1 := n0_; have BK112 := n1_; have HB := n2_; have BK113 := n3_; have GW113 := n4_; have GE113 := n5_; have NB112_113 := n6_; have NB113_112 := n7_; clear n0_ n1_ n2_ n3_ n4_ n5_ n6_ n7_; clear hb hbox hg; have hnb5 := NB112_113.out; have hnc5 := NB113_112.out; have hcz6_0 : w4.cell? ⟨gb112, 0, none⟩ = some (.slice A0_0 l0_0.length c0_0) := (blk_cell BK112.out 0).trans rfl; have hcz6_1 : w4.cell? ⟨gb112, 1, none⟩ = some (.slice A0_1 l0_1.length c0_1) := (blk_cell BK112.out 1).trans rfl; have hfz6_0 := blk_frozen BK112.out 0; have hfz6_1 := blk_frozen BK112.out 1))
 go_loopg [11] k (fun kq v11 w' => ∃ (x11_1 : Int) (x114000_1 : ByteArray) (x114002_1 : ByteArray), v11 = .int .i64 x11_1 ∧ Aside0 (sign_Find.l0 kq a1 l0_1 (l0_1.length : Int) x11_1 = some (r1, r2, r3, r4)) ∧ Aside0 (kq ≤ k) ∧ Aside0 (Kd.V k63 63 w' w.heap.size (fun k_ => (P0_1_ k_ ∨ w.heap.size ≤ k_) ∧ k_ ≠ gb112 ∧ k_ ≠ gb113) (.slice A0_1 l0_1.length c0_1) l0_1) ∧ Aside0 (Kd.V k63 63 w' w.heap.size (fun k_ => (P0_1_ k_ ∨ w.heap.size ≤ k_) ∧ k_ ≠ gb112 ∧ k_ ≠ gb113) (.slice A0_1 l0_1.length c0_1) l0_1) ∧ Aside0 (w'.heap[gb112]? = some (.cells #[(.slice A0_0 l0_0.length c0_0), (.slice A0_1 l0_1.length c0_1)] 25 (0, 0))) ∧ Aside0 (w'.heap[gb113]? = some (.cells #[.string x114000_1, (.slice none 0 0), .string x114002_1] 63 (0, 0))) ∧ Aside0 (Below w.heap.size w w'))
 case atStart => exact ⟨(0), ((⟨#[]⟩ : ByteArray)), ((⟨#[]⟩ : ByteArray)), (by first | rfl | (simp; done) | (simp [*]; done)), H', ⟨Nat.le_refl _⟩, ⟨by (with_reducible repeat (first | apply Kd.V_alloc | apply Kd.V_drewN | apply Kd.V_drew)); exact Kd.V_mono HO0_1.out (fun _ hk => ⟨hk.1.1, ⟨hk.1.2, hk.2⟩⟩)⟩, ⟨by (with_reducible repeat (first | apply Kd.V_alloc | apply Kd.V_drewN | apply Kd.V_drew)); exact Kd.V_mono HO0_1.out (fun _ hk => ⟨hk.1.1, ⟨hk.1.2, hk.2⟩⟩)⟩, ⟨by (with_reducible repeat (first | refine blk_drewN ?_ _ | refine blk_drew ?_ | refine blk_alloc ?_ _)); exact BK112.out⟩, ⟨by (with_reducible repeat (first | refine blk_drewN ?_ _ | refine blk_drew ?_ | refine blk_alloc ?_ _)); exact BK113.out⟩, ⟨by repeat (first | (with_reducible first | exact HB.out | apply below_alloc | apply pw_below_drewN | apply below_drew1 | refine below_set ?_ GE112.out | refine below_set ?_ GE113.out) | exact HB.out)⟩⟩
 case round =>
  clear H'
  try clear p2
  try clear c3
  try clear c5
  try clear hcz6_0
  try clear hcz6_1
  try clear hfz6_0
  try clear hfz6_1
  obtain ⟨x11_1, x114000_1, x114002_1, rfl, HA, HK1, HO_9, HO_113001, BK112, BK113, HB⟩ := hrel
  cases gk with
  | zero => exact absurd HA.out (by simp [sign_Find.l0])
  | succ k1 =>
   have H := HA.out
   clear HA
   simp only [sign_Find.l0] at H
   by_cases c7 : x11_1 < (l0_1.length : Int)
   ·
    rw [if_pos c7] at H
    have c7b0 : decide (x11_1 < (l0_1.length : Int)) = true := decide_eq_true c7
    clear c7
    by_cases c8 : 0 ≤ x11_1
    ·
     rw [if_pos c8] at H
     have c8b0 : decide (0 ≤ x11_1) = true := decide_eq_true c8
     clear c8
     by_cases c9 : x11_1 < (l0_1.length : Int)
     ·
      rw [if_pos c9] at H
      have c9b0 : decide (x11_1 < (l0_1.length : Int)) = true := decide_eq_true c9
      clear c9
      by_cases c10 : ((rd_T63 l0_1 x11_1).f0).toList = a1.toList
      ·
       rw [if_pos c10] at H
       have c10b0 : (((rd_T63 l0_1 x11_1).f0).toList == a1.toList) = true := beq_iff_eq.mpr c10
       have c10b1 : (((rd_T63 l0_1 x11_1).f0).toList != a1.toList) = false := bne_eq_false_iff_eq.mpr c10
       clear c10
       simp only [Option.some.injEq, Prod.mk.injEq] at H
       obtain ⟨rfl, rfl, rfl, rfl⟩ := H
       have p114 : 0 ≤ (x11_1 : Int) := of_decide_eq_true (by first | (with_reducible assumption) | assumption)
       have q114 : x11_1 < (l0_1.length : Int) := of_decide_eq_true (by first | (with_reducible assumption) | assumption)
       obtain ⟨ad114, A114_1, c114_1, e114, hx114_0, hx114_1, hx114_2, hl114_1, hi114_1⟩ := at_T63 (Kd.V_reads' HO_9.out).2.2 x11_1 p114 q114
       cases e114
       obtain ⟨ce114, hce114, hMe114, hcc114⟩ := Kd.V_get HO_9.out z63 x11_1 p114 (by first | exact q114 | exact of_decide_eq_true (by first | (with_reducible assumption) | assumption) | (have e_ := (Kd.V_reads' HO_9.out).1; omega))
       obtain ⟨ua114_1, uc114_1, rfl, ul114_1, ge114_1⟩ := k63_openF hMe114
       have hv114_1 := hcc114 1 _ rfl
       rw [add_field _ _ 1 (by omega)] at hv114_1
       replace hv114_1 := Option.some.inj (hv114_1.symm.trans hx114_1)
       injection hv114_1 with hva_ hvn_ hvc_
       rw [hva_] at ge114_1
       rw [hvc_] at ul114_1
       have HL114_1 := Aside0.mk (show Kd.V Kd.string 9 _ w.heap.size _ _ ((rd_T63 l0_1 x11_1).f1) from Kd.V_mk ul114_1 ge114_1)
       clear hva_ hvn_ hvc_ ge114_1 ul114_1
       clear hcc114 hce114
       have HR114_1 := Aside0.mk hi114_1
       have HC114_1 := Aside0.mk hl114_1
       clear hi114_1 hl114_1
       replace p114 := eq_true p114
       replace q114 := eq_true q114
       go_wp2_with (first | ((with_reducible refine gate_dst (N := 7) rfl ?_); refine box_event ?hg (N := 7) ?hd (cs := #[.string (⟨#[]⟩ : ByteArray), .slice none 0 0, .string (⟨#[]⟩ : ByteArray)]) (t := 63) ?hr ?_; (case hd => rfl); (case hg => rfl); (case hr => first | (go_simp; done) | (go_simp; rfl)); intro gb115 hg w11 hbox hb; have n0_ := Aside0.mk (Kd.V_below (Kd.V_elderB (by (with_reducible repeat (first | apply Kd.V_alloc | apply Kd.V_drewN | apply Kd.V_drew)); exact HO_9.out) gb115 (Nat.le_of_eq hg.symm)) hb); have n1_ := Aside0.mk (Kd.V_below (Kd.V_elderB (by (with_reducible repeat (first | apply Kd.V_alloc | apply Kd.V_drewN | apply Kd.V_drew)); exact HO_113001.out) gb115 (Nat.le_of_eq hg.symm)) hb); have n2_ := Aside0.mk (Kd.V_below (Kd.V_elderB (by (with_reducible repeat (first | apply Kd.V_alloc | apply Kd.V_drewN | apply Kd.V_drew)); exact HL114_1.out) gb115 (Nat.le_of_eq hg.symm)) hb); have n3_ := Aside0.mk (blk_below (g := gb112) (o := .cells #[.slice A0_0 l0_0.length c0_0, .slice (some ad114) l0_1.length c0_1] 25 (0, 0)) (by (with_reducible repeat (first | refine blk_drewN ?_ _ | refine blk_drew ?_ | refine blk_alloc ?_ _)); exact BK112.out) hb); have n4_ := Aside0.mk (blk_below (g := gb113) (o := .cells #[.string x114000_1, .slice none 0 0, .string x114002_1] 63 (0, 0)) (by (with_reducible repeat (first | refine blk_drewN ?_ _ | refine blk_drew ?_ | refine blk_alloc ?_ _)); exact BK113.out) hb); have n5_ := Aside0.mk (Kd.C_below (by repeat (first | (with_reducible exact HR114_1.out) | (with_reducible refine Kd.C_alloc ?_ _) | (with_reducible refine Kd.C_drewN ?_ _) | (with_reducible refine Kd.C_drew ?_) | exact HR114_1.out)) hb); have n6_ := Aside0.mk (below_step (by repeat (first | (with_reducible first | exact HB.out | apply below_alloc | apply pw_below_drewN | apply below_drew1 | refine below_set ?_ GE112.out | refine below_set ?_ GE113.out) | exact HB.out)) hb); have n7_ := Aside0.mk (hbox); have n8_ := Aside0.mk ((by rw [hg]; exact (below_size (by repeat (first | (with_reducible first | exact HB.out | apply below_alloc | apply pw_below_drewN | apply below_drew1 | refine below_set ?_ GE112.out | refine below_set ?_ GE113.out) | exact HB.out))) : w.heap.size ≤ gb115)); have n9_ := Aside0.mk ((by rw [hg]; exact (below_size (by repeat (first | (with_reducible first | exact HB.out | apply below_alloc | apply pw_below_drewN | apply below_drew1 | refine below_set ?_ GE112.out | refine below_set ?_ GE113.out) | exact HB.out))) : w.heap.size ≤ gb115)); have n10_ := Aside0.mk ((by rw [hg]; exact Nat.ne_of_lt (blk_lt (g := gb112) (o := .cells #[.slice A0_0 l0_0.length c0_0, .slice (some ad114) l0_1.length c0_1] 25 (0, 0)) (by (with_reducible repeat (first | refine blk_drewN ?_ _ | refine blk_drew ?_ | refine blk_alloc ?_ _)); exact BK112.out)) : gb112 ≠ gb115)); have n11_ := Aside0.mk ((by rw [hg]; exact Nat.ne_of_gt (blk_lt (g := gb112) (o := .cells #[.slice A0_0 l0_0.length c0_0, .slice (some ad114) l0_1.length c0_1] 25 (0, 0)) (by (with_reducible repeat (first | refine blk_drewN ?_ _ | refine blk_drew ?_ | refine blk_alloc ?_ _)); exact BK112.out)) : gb115 ≠ gb112)); have n12_ := Aside0.mk ((by rw [hg]; exact Nat.ne_of_lt (blk_lt (g := gb113) (o := .cells #[.string x114000_1, .slice none 0 0, .string x114002_1] 63 (0, 0)) (by (with_reducible repeat (first | refine blk_drewN ?_ _ | refine blk_drew ?_ | refine blk_alloc ?_ _)); exact BK113.out)) : gb113 ≠ gb115)); have n13_ := Aside0.mk ((by rw [hg]; exact Nat.ne_of_gt (blk_lt (g := gb113) (o := .cells #[.string x114000_1, .slice none 0 0, .string x114002_1] 63 (0, 0)) (by (with_reducible repeat (first | refine blk_drewN ?_ _ | refine blk_drew ?_ | refine blk_alloc ?_ _)); exact BK113.out)) : gb115 ≠ gb113)); clear HO_9; clear HO_113001; clear HL114_1; clear BK112; clear BK113; clear HR114_1; clear HB; have HO_9 := n0_; have HO_113001 := n1_; have HL114_1 := n2_; have BK112 := n3_; have BK113 := n4_; have HR114_1 := n5_; have HB := n6_; have BK115 := n7_; have GW115 := n8_; have GE115 := n9_; have NB112_115 := n10_; have NB115_112 := n11_; have NB113_115 := n12_; have NB115_113 := n13_; clear n0_ n1_ n2_ n3_ n4_ n5_ n6_ n7_ n8_ n9_ n10_ n11_ n12_ n13_; clear hb hbox hg; have hnb12 := NB115_112.out; have hnc12 := NB112_115.out; have hnb13 := NB115_113.out; have hnc13 := NB113_115.out; have hcz14_0 : w11.cell? ⟨gb115, 0, none⟩ = some (.string (⟨#[]⟩ : ByteArray)) := (blk_cell BK115.out 0).trans rfl; have hcz14_1 : w11.cell? ⟨gb115, 1, none⟩ = some (.slice none 0 0) := (blk_cell BK115.out 1).trans rfl; have hcz14_2 : w11.cell? ⟨gb115, 2, none⟩ = some (.string (⟨#[]⟩ : ByteArray)) := (blk_cell BK115.out 2).trans rfl; have hfz14_0 := blk_frozen BK115.out 0; have hfz14_1 := blk_frozen BK115.out 1; have hfz14_2 := blk_frozen BK115.out 2; have hnb15 := NB113_112.out; have hnc15 := NB112_113.out; have hcz16_0 : w11.cell? ⟨gb113, 0, none⟩ = some (.string x114000_1) := (blk_cell BK113.out 0).trans rfl; have hcz16_1 : w11.cell? ⟨gb113, 1, none⟩ = some (.slice none 0 0) := (blk_cell BK113.out 1).trans rfl; have hcz16_2 : w11.cell? ⟨gb113, 2, none⟩ = some (.string x114002_1) := (blk_cell BK113.out 2).trans rfl; have hfz16_0 := blk_frozen BK113.out 0; have hfz16_1 := blk_frozen BK113.out 1; have hfz16_2 := blk_frozen BK113.out 2))
       refine bodyPost_ret (results_ct rfl _ _ gb113 63 #[.string ((rd_T63 l0_1 x11_1).f0), .slice A114_1 ((rd_T63 l0_1 x11_1).f1).length c114_1, .string ((rd_T63 l0_1 x11_1).f2)] (0, 0) _ rfl (by (with_reducible repeat (first | refine blk_drewN ?_ _ | refine blk_drew ?_ | refine blk_alloc ?_ _)); refine blk_put (cs := #[.string ((rd_T63 l0_1 x11_1).f0), .slice A114_1 ((rd_T63 l0_1 x11_1).f1).length c114_1, .string x114002_1]) ?_ 2 _ rfl; (with_reducible repeat (first | refine blk_drewN ?_ _ | refine blk_drew ?_ | refine blk_alloc ?_ _)); refine blk_put (cs := #[.string ((rd_T63 l0_1 x11_1).f0), .slice none 0 0, .string x114002_1]) ?_ 1 _ rfl; (with_reducible repeat (first | refine blk_drewN ?_ _ | refine blk_drew ?_ | refine blk_alloc ?_ _)); refine blk_put (cs := #[.string x114000_1, .slice none 0 0, .string x114002_1]) ?_ 0 _ rfl; (with_reducible repeat (first | refine blk_drewN ?_ _ | refine blk_drew ?_ | refine blk_alloc ?_ _)); refine blk_far ?_ NB113_115.out _; (with_reducible repeat (first | refine blk_drewN ?_ _ | refine blk_drew ?_ | refine blk_alloc ?_ _)); refine blk_far ?_ NB113_115.out _; (with_reducible repeat (first | refine blk_drewN ?_ _ | refine blk_drew ?_ | refine blk_alloc ?_ _)); refine blk_far ?_ NB113_115.out _; (with_reducible repeat (first | refine blk_drewN ?_ _ | refine blk_drew ?_ | refine blk_alloc ?_ _)); exact BK113.out) Tryd.underlying63 rfl (by kernel_rfl)) rfl ?_
       exact ⟨_, by first | rfl | (simp [errW_none, errW_some] <;> rfl) | (simp [*, errW_none, errW_some] <;> rfl), by (with_reducible repeat (first | apply Kd.V_alloc | apply Kd.V_drewN | apply Kd.V_drew)); exact Kd.V_mono (Kd.V_far (p := ⟨gb113, 2, none⟩) (Kd.V_far (p := ⟨gb113, 1, none⟩) (Kd.V_far (p := ⟨gb113, 0, none⟩) (Kd.V_far (p := ⟨gb115, 2, none⟩) (Kd.V_far (p := ⟨gb115, 1, none⟩) (Kd.V_far (p := ⟨gb115, 0, none⟩) (Kd.V_mono (Kd.V_mono HL114_1.out (fun k_ hk => (⟨hk, hk.2⟩ : _ ∧ k_ ≠ gb115))) (fun k_ hk => (⟨hk, hk.1.1.2.2⟩ : _ ∧ k_ ≠ gb113))) (fun _ hk => hk.1.2) (.string ((rd_T63 l0_1 x11_1).f0))) (fun _ hk => hk.1.2) (.slice A114_1 ((rd_T63 l0_1 x11_1).f1).length c114_1)) (fun _ hk => hk.1.2) (.string ((rd_T63 l0_1 x11_1).f2))) (fun _ hk => hk.2) (.string ((rd_T63 l0_1 x11_1).f0))) (fun _ hk => hk.2) (.slice A114_1 ((rd_T63 l0_1 x11_1).f1).length c114_1)) (fun _ hk => hk.2) (.string ((rd_T63 l0_1 x11_1).f2))) (fun _ hk => hk.1.1.1.1), by repeat (first | (with_reducible first | exact HB.out | apply below_alloc | apply pw_below_drewN | apply below_drew1 | refine below_set ?_ GE112.out | refine below_set ?_ GE113.out | refine below_set ?_ GE115.out) | exact HB.out)⟩
      ·
       rw [if_neg c10] at H
       have c10b0 : (((rd_T63 l0_1 x11_1).f0).toList == a1.toList) = false := beq_eq_false_iff_ne.mpr c10
       have c10b1 : (((rd_T63 l0_1 x11_1).f0).toList != a1.toList) = true := bne_iff_ne.mpr c10
       have H' := Aside0.mk H
       clear H
       have p114 : 0 ≤ (x11_1 : Int) := of_decide_eq_true (by first | (with_reducible assumption) | assumption)
       have q114 : x11_1 < (l0_1.length : Int) := of_decide_eq_true (by first | (with_reducible assumption) | assumption)
       obtain ⟨ad114, A114_1, c114_1, e114, hx114_0, hx114_1, hx114_2, hl114_1, hi114_1⟩ := at_T63 (Kd.V_reads' HO_9.out).2.2 x11_1 p114 q114
       cases e114
       obtain ⟨ce114, hce114, hMe114, hcc114⟩ := Kd.V_get HO_9.out z63 x11_1 p114 (by first | exact q114 | exact of_decide_eq_true (by first | (with_reducible assumption) | assumption) | (have e_ := (Kd.V_reads' HO_9.out).1; omega))
       obtain ⟨ua114_1, uc114_1, rfl, ul114_1, ge114_1⟩ := k63_openF hMe114
       have hv114_1 := hcc114 1 _ rfl
       rw [add_field _ _ 1 (by omega)] at hv114_1
       replace hv114_1 := Option.some.inj (hv114_1.symm.trans hx114_1)
       injection hv114_1 with hva_ hvn_ hvc_
       rw [hva_] at ge114_1
       rw [hvc_] at ul114_1
       have HL114_1 := Aside0.mk (show Kd.V Kd.string 9 _ w.heap.size _ _ ((rd_T63 l0_1 x11_1).f1) from Kd.V_mk ul114_1 ge114_1)
       clear hva_ hvn_ hvc_ ge114_1 ul114_1
       clear hcc114 hce114
       have HR114_1 := Aside0.mk hi114_1
       have HC114_1 := Aside0.mk hl114_1
       clear hi114_1 hl114_1
       replace p114 := eq_true p114
       replace q114 := eq_true q114
       go_wp2_with (first | ((with_reducible refine gate_dst (N := 7) rfl ?_); refine box_event ?hg (N := 7) ?hd (cs := #[.string (⟨#[]⟩ : ByteArray), .slice none 0 0, .string (⟨#[]⟩ : ByteArray)]) (t := 63) ?hr ?_; (case hd => rfl); (case hg => rfl); (case hr => first | (go_simp; done) | (go_simp; rfl)); intro gb115 hg w17 hbox hb; have n0_ := Aside0.mk (Kd.V_below (Kd.V_elderB (by (with_reducible repeat (first | apply Kd.V_alloc | apply Kd.V_drewN | apply Kd.V_drew)); exact HO_9.out) gb115 (Nat.le_of_eq hg.symm)) hb); have n1_ := Aside0.mk (Kd.V_below (Kd.V_elderB (by (with_reducible repeat (first | apply Kd.V_alloc | apply Kd.V_drewN | apply Kd.V_drew)); exact HO_113001.out) gb115 (Nat.le_of_eq hg.symm)) hb); have n2_ := Aside0.mk (Kd.V_below (Kd.V_elderB (by (with_reducible repeat (first | apply Kd.V_alloc | apply Kd.V_drewN | apply Kd.V_drew)); exact HL114_1.out) gb115 (Nat.le_of_eq hg.symm)) hb); have n3_ := Aside0.mk (blk_below (g := gb112) (o := .cells #[.slice A0_0 l0_0.length c0_0, .slice (some ad114) l0_1.length c0_1] 25 (0, 0)) (by (with_reducible repeat (first | refine blk_drewN ?_ _ | refine blk_drew ?_ | refine blk_alloc ?_ _)); exact BK112.out) hb); have n4_ := Aside0.mk (blk_below (g := gb113) (o := .cells #[.string x114000_1, .slice none 0 0, .string x114002_1] 63 (0, 0)) (by (with_reducible repeat (first | refine blk_drewN ?_ _ | refine blk_drew ?_ | refine blk_alloc ?_ _)); exact BK113.out) hb); have n5_ := Aside0.mk (Kd.C_below (by repeat (first | (with_reducible exact HR114_1.out) | (with_reducible refine Kd.C_alloc ?_ _) | (with_reducible refine Kd.C_drewN ?_ _) | (with_reducible refine Kd.C_drew ?_) | exact HR114_1.out)) hb); have n6_ := Aside0.mk (below_step (by repeat (first | (with_reducible first | exact HB.out | apply below_alloc | apply pw_below_drewN | apply below_drew1 | refine below_set ?_ GE112.out | refine below_set ?_ GE113.out) | exact HB.out)) hb); have n7_ := Aside0.mk (hbox); have n8_ := Aside0.mk ((by rw [hg]; exact (below_size (by repeat (first | (with_reducible first | exact HB.out | apply below_alloc | apply pw_below_drewN | apply below_drew1 | refine below_set ?_ GE112.out | refine below_set ?_ GE113.out) | exact HB.out))) : w.heap.size ≤ gb115)); have n9_ := Aside0.mk ((by rw [hg]; exact (below_size (by repeat (first | (with_reducible first | exact HB.out | apply below_alloc | apply pw_below_drewN | apply below_drew1 | refine below_set ?_ GE112.out | refine below_set ?_ GE113.out) | exact HB.out))) : w.heap.size ≤ gb115)); have n10_ := Aside0.mk ((by rw [hg]; exact Nat.ne_of_lt (blk_lt (g := gb112) (o := .cells #[.slice A0_0 l0_0.length c0_0, .slice (some ad114) l0_1.length c0_1] 25 (0, 0)) (by (with_reducible repeat (first | refine blk_drewN ?_ _ | refine blk_drew ?_ | refine blk_alloc ?_ _)); exact BK112.out)) : gb112 ≠ gb115)); have n11_ := Aside0.mk ((by rw [hg]; exact Nat.ne_of_gt (blk_lt (g := gb112) (o := .cells #[.slice A0_0 l0_0.length c0_0, .slice (some ad114) l0_1.length c0_1] 25 (0, 0)) (by (with_reducible repeat (first | refine blk_drewN ?_ _ | refine blk_drew ?_ | refine blk_alloc ?_ _)); exact BK112.out)) : gb115 ≠ gb112)); have n12_ := Aside0.mk ((by rw [hg]; exact Nat.ne_of_lt (blk_lt (g := gb113) (o := .cells #[.string x114000_1, .slice none 0 0, .string x114002_1] 63 (0, 0)) (by (with_reducible repeat (first | refine blk_drewN ?_ _ | refine blk_drew ?_ | refine blk_alloc ?_ _)); exact BK113.out)) : gb113 ≠ gb115)); have n13_ := Aside0.mk ((by rw [hg]; exact Nat.ne_of_gt (blk_lt (g := gb113) (o := .cells #[.string x114000_1, .slice none 0 0, .string x114002_1] 63 (0, 0)) (by (with_reducible repeat (first | refine blk_drewN ?_ _ | refine blk_drew ?_ | refine blk_alloc ?_ _)); exact BK113.out)) : gb115 ≠ gb113)); clear HO_9; clear HO_113001; clear HL114_1; clear BK112; clear BK113; clear HR114_1; clear HB; have HO_9 := n0_; have HO_113001 := n1_; have HL114_1 := n2_; have BK112 := n3_; have BK113 := n4_; have HR114_1 := n5_; have HB := n6_; have BK115 := n7_; have GW115 := n8_; have GE115 := n9_; have NB112_115 := n10_; have NB115_112 := n11_; have NB113_115 := n12_; have NB115_113 := n13_; clear n0_ n1_ n2_ n3_ n4_ n5_ n6_ n7_ n8_ n9_ n10_ n11_ n12_ n13_; clear hb hbox hg; have hnb18 := NB115_112.out; have hnc18 := NB112_115.out; have hnb19 := NB115_113.out; have hnc19 := NB113_115.out; have hcz20_0 : w17.cell? ⟨gb115, 0, none⟩ = some (.string (⟨#[]⟩ : ByteArray)) := (blk_cell BK115.out 0).trans rfl; have hcz20_1 : w17.cell? ⟨gb115, 1, none⟩ = some (.slice none 0 0) := (blk_cell BK115.out 1).trans rfl; have hcz20_2 : w17.cell? ⟨gb115, 2, none⟩ = some (.string (⟨#[]⟩ : ByteArray)) := (blk_cell BK115.out 2).trans rfl; have hfz20_0 := blk_frozen BK115.out 0; have hfz20_1 := blk_frozen BK115.out 1; have hfz20_2 := blk_frozen BK115.out 2))
       go_roundg k1
       case measure => have := HK1.out; omega
       case rel => exact ⟨(wrap64 (x11_1 + 1)), (x114000_1), (x114002_1), (by first | rfl | (simp; done) | (simp [*]; done)), H', ⟨by have := HK1.out; omega⟩, ⟨by (with_reducible repeat (first | apply Kd.V_alloc | apply Kd.V_drewN | apply Kd.V_drew)); exact Kd.V_mono (Kd.V_far (p := ⟨gb115, 2, none⟩) (Kd.V_far (p := ⟨gb115, 1, none⟩) (Kd.V_far (p := ⟨gb115, 0, none⟩) (Kd.V_mono HO_9.out (fun k_ hk => (⟨hk, hk.2⟩ : _ ∧ k_ ≠ gb115))) (fun _ hk => hk.2) (.string ((rd_T63 l0_1 x11_1).f0))) (fun _ hk => hk.2) (.slice A114_1 ((rd_T63 l0_1 x11_1).f1).length c114_1)) (fun _ hk => hk.2) (.string ((rd_T63 l0_1 x11_1).f2))) (fun _ hk => ⟨hk.1.1.1, ⟨hk.1.1.2.1, hk.1.1.2.2⟩⟩)⟩, ⟨by (with_reducible repeat (first | apply Kd.V_alloc | apply Kd.V_drewN | apply Kd.V_drew)); exact Kd.V_mono (Kd.V_far (p := ⟨gb115, 2, none⟩) (Kd.V_far (p := ⟨gb115, 1, none⟩) (Kd.V_far (p := ⟨gb115, 0, none⟩) (Kd.V_mono HO_113001.out (fun k_ hk => (⟨hk, hk.2⟩ : _ ∧ k_ ≠ gb115))) (fun _ hk => hk.2) (.string ((rd_T63 l0_1 x11_1).f0))) (fun _ hk => hk.2) (.slice A114_1 ((rd_T63 l0_1 x11_1).f1).length c114_1)) (fun _ hk => hk.2) (.string ((rd_T63 l0_1 x11_1).f2))) (fun _ hk => ⟨hk.1.1.1, ⟨hk.1.1.2.1, hk.1.1.2.2⟩⟩)⟩, ⟨by (with_reducible repeat (first | refine blk_drewN ?_ _ | refine blk_drew ?_ | refine blk_alloc ?_ _)); refine blk_far ?_ NB112_115.out _; (with_reducible repeat (first | refine blk_drewN ?_ _ | refine blk_drew ?_ | refine blk_alloc ?_ _)); refine blk_far ?_ NB112_115.out _; (with_reducible repeat (first | refine blk_drewN ?_ _ | refine blk_drew ?_ | refine blk_alloc ?_ _)); refine blk_far ?_ NB112_115.out _; (with_reducible repeat (first | refine blk_drewN ?_ _ | refine blk_drew ?_ | refine blk_alloc ?_ _)); exact BK112.out⟩, ⟨by (with_reducible repeat (first | refine blk_drewN ?_ _ | refine blk_drew ?_ | refine blk_alloc ?_ _)); refine blk_far ?_ NB113_115.out _; (with_reducible repeat (first | refine blk_drewN ?_ _ | refine blk_drew ?_ | refine blk_alloc ?_ _)); refine blk_far ?_ NB113_115.out _; (with_reducible repeat (first | refine blk_drewN ?_ _ | refine blk_drew ?_ | refine blk_alloc ?_ _)); refine blk_far ?_ NB113_115.out _; (with_reducible repeat (first | refine blk_drewN ?_ _ | refine blk_drew ?_ | refine blk_alloc ?_ _)); exact BK113.out⟩, ⟨by repeat (first | (with_reducible first | exact HB.out | apply below_alloc | apply pw_below_drewN | apply below_drew1 | refine below_set ?_ GE112.out | refine below_set ?_ GE113.out | refine below_set ?_ GE115.out) | exact HB.out)⟩⟩
     ·
      rw [if_neg c9] at H
      exact absurd H (by simp)
    ·
     rw [if_neg c8] at H
     exact absurd H (by simp)
   ·
    rw [if_neg c7] at H
    have c7b0 : decide (x11_1 < (l0_1.length : Int)) = false := decide_eq_false c7
    clear c7
    simp only [Option.some.injEq, Prod.mk.injEq] at H
    obtain ⟨rfl, rfl, rfl, rfl⟩ := H
    have hnb21 := NB113_112.out
    have hnc21 := NB112_113.out
    have hcz22_0 : wr.cell? ⟨gb113, 0, none⟩ = some (.string x114000_1) := (blk_cell BK113.out 0).trans rfl
    have hcz22_1 : wr.cell? ⟨gb113, 1, none⟩ = some (.slice none 0 0) := (blk_cell BK113.out 1).trans rfl
    have hcz22_2 : wr.cell? ⟨gb113, 2, none⟩ = some (.string x114002_1) := (blk_cell BK113.out 2).trans rfl
    have hfz22_0 := blk_frozen BK113.out 0
    have hfz22_1 := blk_frozen BK113.out 1
    have hfz22_2 := blk_frozen BK113.out 2
    go_wp2
    refine bodyPost_ret (results_ct rfl _ _ gb113 63 #[.string (⟨#[]⟩ : ByteArray), .slice none 0 0, .string (⟨#[]⟩ : ByteArray)] (0, 0) _ rfl (by (with_reducible repeat (first | refine blk_drewN ?_ _ | refine blk_drew ?_ | refine blk_alloc ?_ _)); refine blk_put (cs := #[.string (⟨#[]⟩ : ByteArray), .slice none 0 0, .string x114002_1]) ?_ 2 _ rfl; (with_reducible repeat (first | refine blk_drewN ?_ _ | refine blk_drew ?_ | refine blk_alloc ?_ _)); refine blk_put (cs := #[.string (⟨#[]⟩ : ByteArray), .slice none 0 0, .string x114002_1]) ?_ 1 _ rfl; (with_reducible repeat (first | refine blk_drewN ?_ _ | refine blk_drew ?_ | refine blk_alloc ?_ _)); refine blk_put (cs := #[.string x114000_1, .slice none 0 0, .string x114002_1]) ?_ 0 _ rfl; (with_reducible repeat (first | refine blk_drewN ?_ _ | refine blk_drew ?_ | refine blk_alloc ?_ _)); exact BK113.out) Tryd.underlying63 rfl (by kernel_rfl)) rfl ?_
    exact ⟨_, by first | rfl | (simp [errW_none, errW_some] <;> rfl) | (simp [*, errW_none, errW_some] <;> rfl), (by first | exact Kd.V_nil _ _ _ _ _ | exact Kd.V_mono (Kd.R_V (by first | exact Kd.R_nil _ _ _ _ _ | exact Kd.N_nil _ _ _ _ _ | exact Kd.V_nil _ _ _ _ _ | exact Kd.Q_nil _ _ _ _ _ | exact Kd.S_nil _ _ _ _ _)) (fun k_ hk => by first | exact ⟨(.inr (hk.1)), hk.2⟩ | exact (.inr (hk)))), by repeat (first | (with_reducible first | exact HB.out | apply below_alloc | apply pw_below_drewN | apply below_drew1 | refine below_set ?_ GE112.out | refine below_set ?_ GE113.out) | exact HB.out)⟩

/-! ### well_room_find: function 52 -/
-- EXT (sequitur/well.room).find; kind=0


/-! ### well_ask: function 54 -/
-- EXT sequitur/well.ask; kind=0


/-! ### well_room_apply: function 53 -/
-- EXT (sequitur/well.room).apply; kind=0


/-! ### bits_Mul32: function 91 -/
def bits_Mul32.f (a0 : Int) (a1 : Int) : Option (Int × Int) := some (((IntKind.u64.wrap ((IntKind.u64.wrap (a0)) * (IntKind.u64.wrap (a1)))) / 4294967296) % 4294967296, (IntKind.u64.wrap ((IntKind.u64.wrap (a0)) * (IntKind.u64.wrap (a1)))) % 4294967296)
set_option maxHeartbeats 8000000 in
set_option maxRecDepth 100000 in
theorem bits_Mul32.calls (a0 : Int) (a1 : Int) (r1 : Int) (r2 : Int) (w : World) (h : bits_Mul32.f a0 a1 = some (r1, r2)) :
  Calls Tryd.prog 91 #[.int .u32 a0, .int .u32 a1] w fun e w' => e = .returned (.tuple #[.int .u32 r1, .int .u32 r2]) ∧ Drawn0 w w' := by
 have H : (some (((IntKind.u64.wrap ((IntKind.u64.wrap (a0)) * (IntKind.u64.wrap (a1)))) / 4294967296) % 4294967296, (IntKind.u64.wrap ((IntKind.u64.wrap (a0)) * (IntKind.u64.wrap (a1)))) % 4294967296)) = some (r1, r2) := h
 clear h
 simp only [Option.some.injEq, Prod.mk.injEq] at H
 obtain ⟨rfl, rfl⟩ := H
 go_enter Tryd.func91, Tryd.ntmps91
 go_wp2
 go_ret2
 exact ⟨by first | rfl | (simp; done) | (simp [*]; done), by repeat (first | exact Drawn0.refl _ | apply Drawn0.step)⟩

/-! ### bits_Mul64: function 92 -/
def bits_Mul64.f (a0 : Int) (a1 : Int) : Option (Int × Int) := some (IntKind.u64.wrap ((IntKind.u64.wrap ((IntKind.u64.wrap ((a0 / 4294967296) * (a1 / 4294967296))) + ((IntKind.u64.wrap ((IntKind.u64.wrap ((a0 / 4294967296) * (Go.bits .and .u64 a1 4294967295))) + ((IntKind.u64.wrap ((Go.bits .and .u64 a0 4294967295) * (Go.bits .and .u64 a1 4294967295))) / 4294967296))) / 4294967296))) + ((IntKind.u64.wrap ((Go.bits .and .u64 (IntKind.u64.wrap ((IntKind.u64.wrap ((a0 / 4294967296) * (Go.bits .and .u64 a1 4294967295))) + ((IntKind.u64.wrap ((Go.bits .and .u64 a0 4294967295) * (Go.bits .and .u64 a1 4294967295))) / 4294967296))) 4294967295) + (IntKind.u64.wrap ((Go.bits .and .u64 a0 4294967295) * (a1 / 4294967296))))) / 4294967296)), IntKind.u64.wrap (a0 * a1))
set_option maxHeartbeats 8000000 in
set_option maxRecDepth 100000 in
theorem bits_Mul64.calls (a0 : Int) (a1 : Int) (r1 : Int) (r2 : Int) (w : World) (h : bits_Mul64.f a0 a1 = some (r1, r2)) :
  Calls Tryd.prog 92 #[.int .u64 a0, .int .u64 a1] w fun e w' => e = .returned (.tuple #[.int .u64 r1, .int .u64 r2]) ∧ Drawn0 w w' := by
 have H : (some (IntKind.u64.wrap ((IntKind.u64.wrap ((IntKind.u64.wrap ((a0 / 4294967296) * (a1 / 4294967296))) + ((IntKind.u64.wrap ((IntKind.u64.wrap ((a0 / 4294967296) * (Go.bits .and .u64 a1 4294967295))) + ((IntKind.u64.wrap ((Go.bits .and .u64 a0 4294967295) * (Go.bits .and .u64 a1 4294967295))) / 4294967296))) / 4294967296))) + ((IntKind.u64.wrap ((Go.bits .and .u64 (IntKind.u64.wrap ((IntKind.u64.wrap ((a0 / 4294967296) * (Go.bits .and .u64 a1 4294967295))) + ((IntKind.u64.wrap ((Go.bits .and .u64 a0 4294967295) * (Go.bits .and .u64 a1 4294967295))) / 4294967296))) 4294967295) + (IntKind.u64.wrap ((Go.bits .and .u64 a0 4294967295) * (a1 / 4294967296))))) / 4294967296)), IntKind.u64.wrap (a0 * a1))) = some (r1, r2) := h
 clear h
 simp only [Option.some.injEq, Prod.mk.injEq] at H
 obtain ⟨rfl, rfl⟩ := H
 go_enter Tryd.func92, Tryd.ntmps92
 go_wp2
 go_ret2
 exact ⟨by first | rfl | (simp; done) | (simp [*]; done), by repeat (first | exact Drawn0.refl _ | apply Drawn0.step)⟩

/-! ### bits_Mul: function 81 -/
def bits_Mul.f (a0 : Int) (a1 : Int) : Option (Int × Int) := (bits_Mul64.f a0 a1).bind fun bt116 => (some (bt116.1, bt116.2))
set_option maxHeartbeats 8000000 in
set_option maxRecDepth 100000 in
theorem bits_Mul.calls (a0 : Int) (a1 : Int) (r1 : Int) (r2 : Int) (w : World) (h : bits_Mul.f a0 a1 = some (r1, r2)) :
  Calls Tryd.prog 81 #[.int .u64 a0, .int .u64 a1] w fun e w' => e = .returned (.tuple #[.int .u64 r1, .int .u64 r2]) ∧ Drawn0 w w' := by
 have H : ((bits_Mul64.f a0 a1).bind fun bt116 => (some (bt116.1, bt116.2))) = some (r1, r2) := h
 clear h
 replace H := Option.bind_eq_some_iff.mp H
 obtain ⟨⟨t116, t117⟩, A30, H⟩ := H
 replace H : (some (t116, t117)) = some (r1, r2) := H
 have A3 := Aside0.mk A30
 clear A30
 simp only [Option.some.injEq, Prod.mk.injEq] at H
 obtain ⟨rfl, rfl⟩ := H
 go_enter Tryd.func81, Tryd.ntmps81
 go_wp2_with (first | ((with_reducible refine gate_callee (f := 92) rfl ?_); refine goesL_ (some 25) rfl rfl Tryd.func92 (by kernel_rfl) rfl #[.int .u64 a0, .int .u64 a1] rfl (by (try simp only [List.map_toArray, List.map_cons, List.map_nil]); first | done | rfl | (simp only [List.length_drop, List.length_take]; rfl)) ?_; (with_reducible refine (bits_Mul64.calls a0 a1 t116 t117 _ A3.out).mono ?_); (try clear A3); rintro e w' ⟨rfl, ⟨nd, rfl⟩⟩; refine ⟨_, rfl, ?_⟩))
 go_ret2
 exact ⟨by first | rfl | (simp; done) | (simp [*]; done), by repeat (first | exact Drawn0.refl _ | apply Drawn0.step)⟩

/-! ### slices_Repeat_string_string: function 55 -/
-- EXT slices.Repeat[[]string,string]; kind=0


end Go.Proofs.YtjmbdejejlcklaaDoor.Print
