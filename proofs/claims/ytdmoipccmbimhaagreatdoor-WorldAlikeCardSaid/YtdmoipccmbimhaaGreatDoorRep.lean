-- own work: an evaluator of the program's code, and what it answers
import Derived.Test.YtdmoipccmbimhaaGreatDoorEngD
import Derived.Test.YtdmoipccmbimhaaGreatDoorTab
import Derived.Test.YtdmoipccmbimhaaGreatDoorEngC
import Derived.Laws.CopyRow
import Derived.Laws.CopyOwn
import Derived.Laws.MakeOwn
import Derived.LoopN
import Derived.KernelRfl
import Derived.Deep.LoopGhost
import Derived.Deep.QuietTactic
/- slices.Repeat of one text, at most two times. -/
set_option maxRecDepth 100000
set_option linter.unusedVariables false
set_option linter.unusedSimpArgs false
namespace Go.Eng
open Go Go.RowKit Go.Proofs
theorem cells2 {w : World} {g : Nat} {t : TypeId} {a b : Value} (h : w.heap[g]? = some (.cells #[a, b] t (0, 0))) : w.cell? ⟨g, 0, none⟩ = some a ∧ w.cell? ⟨g, 1, none⟩ = some b ∧ w.frozen? ⟨g, 0, none⟩ = false ∧ w.frozen? ⟨g, 1, none⟩ = false := ⟨(blk_cell h 0).trans rfl, (blk_cell h 1).trans rfl, blk_frozen h 0, blk_frozen h 1⟩
theorem ret2_tmps {fn : Func} {a b : Tmp} (h : fn.results = #[.tmp a, .tmp b]) {P : Program} (tmps : Array Value) (w : World) : (results fn tmps).run P w = .ok (.tuple #[tmps.getD a undef, tmps.getD b undef]) w := by
  simp [results, h]
/-- one text, so many times, in new memory -/
def RepC (w : World) (base : Nat) (A : Option Addr) (n : Nat) (s : ByteArray) : Prop := n ≠ 0 → ∃ g, A = some ⟨g, 0, none⟩ ∧ base ≤ g ∧ ∀ j, j < n → w.cell? ⟨g, j, none⟩ = some (.string s)
theorem pw_below_drewN {B : Nat} {w W : World} (h : Below B w W) (n : Nat) : Below B w (W.drewN n) := ⟨h.os, h.tape, h.output, h.size, h.block⟩
theorem below_drew {B : Nat} {w W : World} (h : Below B w W) : Below B w W.drew := ⟨h.os, h.tape, h.output, h.size, h.block⟩
theorem blk_drew {w : World} {g : Nat} {o : Obj} (h : w.heap[g]? = some o) : w.drew.heap[g]? = some o := h
theorem blk_set {w : World} {g : Nat} {t : TypeId} {cs : Array Value} (h : w.heap[g]? = some (.cells cs t (0, 0))) (i : Nat) (u : Value) : (w.setCell ⟨g, i, none⟩ u).heap[g]? = some (.cells (cs.setIfInBounds i u) t (0, 0)) := by
  simp [World.setCell, Array.getElem?_modify, h]
theorem blk_put {w : World} {g : Nat} {t : TypeId} {cs cs' : Array Value} (h : w.heap[g]? = some (.cells cs t (0, 0))) (i : Nat) (u : Value) (e : cs.setIfInBounds i u = cs') : (w.setCell ⟨g, i, none⟩ u).heap[g]? = some (.cells cs' t (0, 0)) := e ▸ blk_set h i u
theorem run_copy_nothing {P : Program} (w : World) (dT sT ty elem : TypeId) (d a : Option Addr) (dLen dCap sLen sCap sz : Nat) (hu : P.underlying dT = some (.slice elem)) (hs : (P.info? elem).map (·.size) = some sz) (hn : Nat.min sLen dLen = 0) :
    (Builtin.copy_ #[dT, sT] ty #[.slice d dLen dCap, .slice a sLen sCap]).run P w = .ok (goInt 0) w := by
  cases hq : P.info? elem with
  | none => simp [hq] at hs
  | some i =>
    have hl : ∀ (x : Addr), (loadCells x 0).run P w = .ok #[] w := fun x => by simpa using run_loadCells_list (P := P) w x [] (by simp)
    cases d <;> cases a <;> simp [Builtin.copy_, run_underlying hu, Builtin.lenOf, Builtin.firstCells, sizeOf, typeInfo, hq, hn, storeCells, hl]
set_option maxHeartbeats 2000000 in
theorem mul64_any (n : Nat) (hn : n ≤ 2) (w : World) : Calls Tryz.prog 135 #[.int .u64 1, .int .u64 (n : Nat)] w fun e w' => e = .returned (.tuple #[.int .u64 0, .int .u64 (n : Nat)]) ∧ ∃ m, w' = w.drewN m := by
  have : n = 0 ∨ n = 1 ∨ n = 2 := by omega
  rcases this with rfl | rfl | rfl
  all_goals
    go_enter Tryz.func135, Tryz.ntmps135
    go_wp2
    refine bodyPost_ret (results_tmp2 rfl _ _ _) rfl ?_
    exact ⟨rfl, 0, rfl⟩
set_option maxHeartbeats 2000000 in
theorem mul_any (n : Nat) (hn : n ≤ 2) (w : World) : Calls Tryz.prog 173 #[.int .u64 1, .int .u64 (n : Nat)] w fun e w' => e = .returned (.tuple #[.int .u64 0, .int .u64 (n : Nat)]) ∧ ∃ m, w' = w.drewN m := by
  have H := fun w => mul64_any n hn w
  go_enter Tryz.func173, Tryz.ntmps173
  go_wp2_with fail
  refine (H _).mono ?_
  rintro e w1 ⟨rfl, m, rfl⟩
  go_wp2
  refine bodyPost_ret (results_tmp2 rfl _ _ _) rfl ?_
  exact ⟨rfl, m, rfl⟩
theorem run_copy_cell {P : Program} (w : World) (dT sT ty elem : TypeId) (b o : Nat) (s : Addr) (dLen dCap sLen sCap : Nat) (v u : Value) (hu : P.underlying dT = some (.slice elem)) (hs : (P.info? elem).map (·.size) = some 1) (hm : Nat.min sLen dLen = 1)
    (hsrc : w.cell? s = some v) (hd : w.cell? ⟨b, o, none⟩ = some u) (hf : w.frozen? ⟨b, o, none⟩ = false) (h1 : v.oneCell' = true) :
    (Builtin.copy_ #[dT, sT] ty #[.slice (some ⟨b, o, none⟩) dLen dCap, .slice (some s) sLen sCap]).run P w = .ok (.int .i64 1) (w.setCell ⟨b, o, none⟩ v) := by
  have hl := run_loadCells_list (P := P) w s [v] (by intro j x hj; cases j with | zero => simp at hj; subst hj; simpa [Addr.add] using hsrc | succ j => simp at hj)
  have hst := run_storeCells_cells (P := P) b o [v] 0 w (by intro j hj; simp at hj; subst hj; simp [hd]) (by intro j hj; simp at hj; subst hj; simpa using hf) (by simpa using h1)
  simp only [Nat.add_zero, World.setCells, List.length_singleton] at hst hl
  cases hq : P.info? elem with
  | none => simp [hq] at hs
  | some i =>
    have hi : i.size = 1 := by simpa [hq] using hs
    simp [Builtin.copy_, run_underlying hu, Builtin.lenOf, Builtin.firstCells, sizeOf, typeInfo, hq, hi, hm, hl, hst]
    rfl
theorem cell_off1 {W : World} {g : Nat} {v : Value} (h : W.cell? ⟨g, 0, none⟩ = some v) (u : Value) : (W.setCell ⟨g, 1, none⟩ u).cell? ⟨g, 0, none⟩ = some v := by
  have := World.cell?_setCells_out g [u] 1 W ⟨g, 0, none⟩ (fun _ _ => .inl (by simp))
  exact this.trans h
theorem make_run (w : World) (n : Nat) (hn : n ≤ 2) : (Instr.makeSlice 22 (.int .i64 (n : Nat)) (.int .i64 (n : Nat))).run Tryz.prog w = .ok (.slice (some ⟨w.heap.size, 0, none⟩) n n) (w.alloc (.cells (madeCells #[.string ⟨#[]⟩] n) 9)) := by
  obtain ⟨i0, hi, hz⟩ := Option.map_eq_some_iff.1 (show (Tryz.prog.info? 9).map (fun i => (i.zero, i.size, i.bytes)) = some (some (.string ⟨#[]⟩), 1, 16) by kernel_rfl)
  simp only [Prod.mk.injEq] at hz
  obtain ⟨hz0, hz1, hz2⟩ := hz
  have h := run_make (P := Tryz.prog) w 22 9 i0 (.string ⟨#[]⟩) Tryz.underlying22 hi hz0 .i64 .i64 n n (by omega) (Int.le_refl _) (by rw [hz2]; omega) (by omega)
  rw [hz1, Nat.mul_one, Int.toNat_natCast] at h
  exact h
/-- How a walk ends that tells a row of one text, some times over. -/
def RepEnd (n : Nat) (s : ByteArray) (w : World) (e : Ending) (w' : World) : Prop := ∃ A c, e = .returned (.slice A n c) ∧ n ≤ c ∧ RepC w' w.heap.size A n s ∧ Below w.heap.size w w'

set_option maxRecDepth 100000 in
set_option maxHeartbeats 4000000 in
theorem rep_0 (b o c : Nat) (s : ByteArray) (w : World) (hc : 1 ≤ c) (hb : w.cell? ⟨b, o, none⟩ = some (.string s)) :
    Calls Tryz.prog 164 #[.slice (some ⟨b, o, none⟩) 1 c, .int .i64 0] w (RepEnd 0 s w) := by
  have hlt : b < w.heap.size := World.block_lt_of_cell? w _ hb
  have HB := Aside0.mk hb
  clear hb
  go_enter Tryz.func164, Tryz.ntmps164
  go_wp2_with fail
  refine (mul_any 0 (by omega) _).mono ?_
  rintro e w1 ⟨rfl, ⟨m1, rfl⟩⟩
  have hmk := make_run (w.drewN m1) 0 (by decide)
  rw [show madeCells #[.string ⟨#[]⟩] 0 = #[] from Array.toList_inj.1 (by simp [madeCells, List.range, List.range.loop])] at hmk
  rw [show ((0 : Nat) : Int) = 0 from rfl] at hmk
  have hB1 : Below w.heap.size w ((w.drewN m1).alloc (.cells #[] 9)) := below_alloc (pw_below_drewN (Below.refl _ _) _) _
  have hX : ((w.drewN m1).alloc (.cells #[] 9)).heap[w.heap.size]? = some (.cells #[] 9 (0, 0)) := by simpa using blk_new (w.drewN m1) _
  have hY := (hB1.cell (World.block_lt_of_cell? w _ HB.out)).trans HB.out
  obtain ⟨W, hW⟩ : ∃ W, (w.drewN m1).alloc (.cells #[] 9) = W := ⟨_, rfl⟩
  obtain ⟨g, hg⟩ : ∃ g, g = w.heap.size := ⟨_, rfl⟩
  rw [show (w.drewN m1).heap.size = w.heap.size by simp] at hmk
  rw [hW, ← hg] at hmk
  rw [hW, ← hg] at hX
  rw [hW] at hB1 hY
  rw [← hg] at hlt
  have HG := Aside0.mk hg
  have HB1 := Aside0.mk hB1
  have HX := Aside0.mk hX
  have HY := Aside0.mk hY
  clear hW hg hB1 hX hY HB
  have hcp : ∀ ty, (Builtin.copy_ #[22, 22] ty #[.slice (some ⟨g, 0, none⟩) 0 0, .slice (some ⟨b, o, none⟩) 1 c]).run Tryz.prog W = .ok (.int .i64 0) W := fun ty => run_copy_nothing W 22 22 ty 9 _ _ 0 0 1 c 1 Tryz.underlying22 (by kernel_rfl) (by decide)
  go_wp2
  refine wp_loop_rounds 1 ?_
  rw [rounds_succ]
  go_wp2
  go_ret
  exact ⟨_, _, rfl, Nat.le_refl _, fun h => absurd rfl h, HB1.out⟩
set_option maxRecDepth 100000 in
set_option maxHeartbeats 4000000 in
theorem rep_1 (b o c : Nat) (s : ByteArray) (w : World) (hc : 1 ≤ c) (hb : w.cell? ⟨b, o, none⟩ = some (.string s)) :
    Calls Tryz.prog 164 #[.slice (some ⟨b, o, none⟩) 1 c, .int .i64 1] w (RepEnd 1 s w) := by
  have hlt : b < w.heap.size := World.block_lt_of_cell? w _ hb
  have HB := Aside0.mk hb
  clear hb
  go_enter Tryz.func164, Tryz.ntmps164
  go_wp2_with fail
  refine (mul_any 1 (by omega) _).mono ?_
  rintro e w1 ⟨rfl, ⟨m1, rfl⟩⟩
  have hmk := make_run (w.drewN m1) 1 (by decide)
  rw [show madeCells #[.string ⟨#[]⟩] 1 = #[.string ⟨#[]⟩] from Array.toList_inj.1 (by simp [madeCells, List.range, List.range.loop])] at hmk
  rw [show ((1 : Nat) : Int) = 1 from rfl] at hmk
  have hB1 : Below w.heap.size w ((w.drewN m1).alloc (.cells #[.string ⟨#[]⟩] 9)) := below_alloc (pw_below_drewN (Below.refl _ _) _) _
  have hX : ((w.drewN m1).alloc (.cells #[.string ⟨#[]⟩] 9)).heap[w.heap.size]? = some (.cells #[.string ⟨#[]⟩] 9 (0, 0)) := by simpa using blk_new (w.drewN m1) _
  have hY := (hB1.cell (World.block_lt_of_cell? w _ HB.out)).trans HB.out
  obtain ⟨W, hW⟩ : ∃ W, (w.drewN m1).alloc (.cells #[.string ⟨#[]⟩] 9) = W := ⟨_, rfl⟩
  obtain ⟨g, hg⟩ : ∃ g, g = w.heap.size := ⟨_, rfl⟩
  rw [show (w.drewN m1).heap.size = w.heap.size by simp] at hmk
  rw [hW, ← hg] at hmk
  rw [hW, ← hg] at hX
  rw [hW] at hB1 hY
  rw [← hg] at hlt
  have HG := Aside0.mk hg
  have HB1 := Aside0.mk hB1
  have HX := Aside0.mk hX
  have HY := Aside0.mk hY
  clear hW hg hB1 hX hY HB
  have hcp : ∀ ty, (Builtin.copy_ #[22, 22] ty #[.slice (some ⟨g, 0, none⟩) 1 1, .slice (some ⟨b, o, none⟩) 1 c]).run Tryz.prog W = .ok (.int .i64 1) (W.setCell ⟨g, 0, none⟩ (.string s)) := fun ty => run_copy_cell W 22 22 ty 9 g 0 _ 1 1 1 c _ _ Tryz.underlying22 (by kernel_rfl) (by decide) HY.out (cells1 HX.out).1 (cells1 HX.out).2 rfl
  go_wp2
  refine wp_loop_rounds 1 ?_
  rw [rounds_succ]
  go_wp2
  go_ret
  exact ⟨_, _, rfl, Nat.le_refl _, fun _ => ⟨_, rfl, Nat.le_of_eq HG.out.symm, fun j hj => (by have e : j = 0 := (by omega); subst e; exact (cells1 (blk_put HX.out 0 _ rfl)).1)⟩, below_set HB1.out (by rw [HG.out]; exact Nat.le_refl _)⟩
set_option maxRecDepth 100000 in
set_option maxHeartbeats 4000000 in
theorem rep_2 (b o c : Nat) (s : ByteArray) (w : World) (hc : 1 ≤ c) (hb : w.cell? ⟨b, o, none⟩ = some (.string s)) :
    Calls Tryz.prog 164 #[.slice (some ⟨b, o, none⟩) 1 c, .int .i64 2] w (RepEnd 2 s w) := by
  have hlt : b < w.heap.size := World.block_lt_of_cell? w _ hb
  have HB := Aside0.mk hb
  clear hb
  go_enter Tryz.func164, Tryz.ntmps164
  go_wp2_with fail
  refine (mul_any 2 (by omega) _).mono ?_
  rintro e w1 ⟨rfl, ⟨m1, rfl⟩⟩
  have hmk := make_run (w.drewN m1) 2 (by decide)
  rw [show madeCells #[.string ⟨#[]⟩] 2 = #[.string ⟨#[]⟩, .string ⟨#[]⟩] from Array.toList_inj.1 (by simp [madeCells, List.range, List.range.loop])] at hmk
  rw [show ((2 : Nat) : Int) = 2 from rfl] at hmk
  have hB1 : Below w.heap.size w ((w.drewN m1).alloc (.cells #[.string ⟨#[]⟩, .string ⟨#[]⟩] 9)) := below_alloc (pw_below_drewN (Below.refl _ _) _) _
  have hX : ((w.drewN m1).alloc (.cells #[.string ⟨#[]⟩, .string ⟨#[]⟩] 9)).heap[w.heap.size]? = some (.cells #[.string ⟨#[]⟩, .string ⟨#[]⟩] 9 (0, 0)) := by simpa using blk_new (w.drewN m1) _
  have hY := (hB1.cell (World.block_lt_of_cell? w _ HB.out)).trans HB.out
  obtain ⟨W, hW⟩ : ∃ W, (w.drewN m1).alloc (.cells #[.string ⟨#[]⟩, .string ⟨#[]⟩] 9) = W := ⟨_, rfl⟩
  obtain ⟨g, hg⟩ : ∃ g, g = w.heap.size := ⟨_, rfl⟩
  rw [show (w.drewN m1).heap.size = w.heap.size by simp] at hmk
  rw [hW, ← hg] at hmk
  rw [hW, ← hg] at hX
  rw [hW] at hB1 hY
  rw [← hg] at hlt
  have HG := Aside0.mk hg
  have HB1 := Aside0.mk hB1
  have HX := Aside0.mk hX
  have HY := Aside0.mk hY
  clear hW hg hB1 hX hY HB
  have hcp : ∀ ty, (Builtin.copy_ #[22, 22] ty #[.slice (some ⟨g, 0, none⟩) 2 2, .slice (some ⟨b, o, none⟩) 1 c]).run Tryz.prog W = .ok (.int .i64 1) (W.setCell ⟨g, 0, none⟩ (.string s)) := fun ty => run_copy_cell W 22 22 ty 9 g 0 _ 2 2 1 c _ _ Tryz.underlying22 (by kernel_rfl) (by decide) HY.out (cells2 HX.out).1 (cells2 HX.out).2.2.1 rfl
  have hX2 := blk_put HX.out 0 (.string s) rfl
  have hB2 : Below w.heap.size w (W.setCell ⟨g, 0, none⟩ (.string s)) := below_set HB1.out (by rw [HG.out]; exact Nat.le_refl _)
  obtain ⟨W2, hW2⟩ : ∃ W2, W.setCell ⟨g, 0, none⟩ (.string s) = W2 := ⟨_, rfl⟩
  rw [hW2] at hcp hX2 hB2
  have HB2 := Aside0.mk hB2
  have HX2 := Aside0.mk hX2
  clear hW2 hB2 hX2
  go_wp2
  refine wp_loop_rounds 2 ?_
  rw [rounds_succ]
  go_wp2
  have k0 : W2.drew.cell? ⟨g, 0, none⟩ = some (.string s) := (cells2 (blk_drew HX2.out)).1
  have k1 : W2.cell? ⟨g, 1, none⟩ = some (.string ⟨#[]⟩) := (cells2 HX2.out).2.1
  have hcp2 : ∀ ty, (Builtin.copy_ #[22, 22] ty #[.slice (some ⟨g, 1, none⟩) 1 1, .slice (some ⟨g, 0, none⟩) 1 2]).run Tryz.prog W2.drew = .ok (.int .i64 1) (W2.drew.setCell ⟨g, 1, none⟩ (.string s)) := fun ty => run_copy_cell W2.drew 22 22 ty 9 g 1 _ 1 1 1 2 _ _ Tryz.underlying22 (by kernel_rfl) (by decide) k0 (cells2 (blk_drew HX2.out)).2.1 (cells2 (blk_drew HX2.out)).2.2.2 rfl
  refine start_ (n := 10) (S := fun w' => w'.cell? ⟨g, 0, none⟩ = some (.string s)) (ds := []) #[false, false, false, false, false, false, false, false, false, false] (by kernel_rfl) rfl rfl (k0) (fun hHeld => ?_)
  refine pure_ (i := 0) (N := some 38) (v := ?_) (a' := ?_) #[true, false, false, false, false, false, false, false, false, false] rfl rfl (by kernel_rfl) (fun _ _ _ h => h) (Or.inl ⟨by rfl, ?_⟩) ?_ ?_
  rotate_left
  · intro w'
    go_simp
    with_reducible rfl
  rotate_left
  · simp only [Act.put, List.setIfInBounds_toArray, List.set_cons_zero, List.set_cons_succ, i64_w, i32_w]
    rfl
  refine pure_ (i := 1) (N := some 39) (v := ?_) (a' := ?_) #[true, true, false, false, false, false, false, false, false, false] rfl rfl (by kernel_rfl) (fun _ _ _ h => h) (Or.inl ⟨by rfl, ?_⟩) ?_ ?_
  rotate_left
  · intro w'
    go_simp
    with_reducible rfl
  rotate_left
  · simp only [Act.put, List.setIfInBounds_toArray, List.set_cons_zero, List.set_cons_succ, i64_w, i32_w]
    rfl
  refine pure_ (i := 2) (N := some 40) (v := ?_) (a' := ?_) #[true, true, true, false, false, false, false, false, false, false] rfl rfl (by kernel_rfl) (fun _ _ _ h => h) (Or.inl ⟨by rfl, ?_⟩) ?_ ?_
  rotate_left
  · intro w'
    go_simp
    with_reducible rfl
  rotate_left
  · simp only [Act.put, List.setIfInBounds_toArray, List.set_cons_zero, List.set_cons_succ, i64_w, i32_w]
    rfl
  refine pure_ (i := 3) (N := some 41) (v := ?_) (a' := ?_) #[true, true, true, true, false, false, false, false, false, false] rfl rfl (by kernel_rfl) (fun _ _ _ h => h) (Or.inl ⟨by rfl, ?_⟩) ?_ ?_
  rotate_left
  · intro w'
    go_simp
    with_reducible rfl
  rotate_left
  · simp only [Act.put, List.setIfInBounds_toArray, List.set_cons_zero, List.set_cons_succ, i64_w, i32_w]
    rfl
  refine pure_ (i := 4) (N := some 42) (v := ?_) (a' := ?_) #[true, true, true, true, true, false, false, false, false, false] rfl rfl (by kernel_rfl) (fun _ _ _ h => h) (Or.inl ⟨by rfl, ?_⟩) ?_ ?_
  rotate_left
  · intro w'
    go_simp
    with_reducible rfl
  rotate_left
  · simp only [Act.put, List.setIfInBounds_toArray, List.set_cons_zero, List.set_cons_succ, i64_w, i32_w]
    rfl
  refine pure_ (i := 5) (N := some 43) (v := ?_) (a' := ?_) #[true, true, true, true, true, true, false, false, false, false] rfl rfl (by kernel_rfl) (fun _ _ _ h => h) (Or.inl ⟨by rfl, ?_⟩) ?_ ?_
  rotate_left
  · intro w'
    go_simp
    with_reducible rfl
  rotate_left
  · simp only [Act.put, List.setIfInBounds_toArray, List.set_cons_zero, List.set_cons_succ, i64_w, i32_w]
    rfl
  refine pure_ (i := 6) (N := some 44) (v := ?_) (a' := ?_) #[true, true, true, true, true, true, true, false, false, false] rfl rfl (by kernel_rfl) (fun _ _ _ h => h) (Or.inl ⟨by rfl, ?_⟩) ?_ ?_
  rotate_left
  · intro w'
    go_simp
    with_reducible rfl
  rotate_left
  · simp only [Act.put, List.setIfInBounds_toArray, List.set_cons_zero, List.set_cons_succ, i64_w, i32_w]
    rfl
  refine one_ (i := 7) (N := some 45) #[true, true, true, true, true, true, true, true, false, false] rfl rfl (by kernel_rfl) (by decide) (fun K hK => ?_)
  refine value_ (w1 := W2.drew.setCell ⟨g, 1, none⟩ (.string s)) (v := .int .i64 1) (by rfl) rfl (by first | (go_simp; done) | (go_simp; rfl)) ?_
  refine hK.out _ _ (cell_off1 k0 _) (fun hHeld => ?_)
  clear hK K
  refine norm_ (a' := ?_) ?_ ?_
  rotate_left
  · show Act.put _ (some 45) _ = _
    simp only [Act.put, List.setIfInBounds_toArray, List.set_cons_zero, List.set_cons_succ, i64_w, i32_w]
    rfl
  refine pure_ (i := 8) (N := some 46) (v := ?_) (a' := ?_) #[true, true, true, true, true, true, true, true, true, false] rfl rfl (by kernel_rfl) (fun _ _ _ h => h) (Or.inl ⟨by rfl, ?_⟩) ?_ ?_
  rotate_left
  · intro w'
    go_simp
    with_reducible rfl
  rotate_left
  · simp only [Act.put, List.setIfInBounds_toArray, List.set_cons_zero, List.set_cons_succ, i64_w, i32_w]
    rfl
  refine pure_ (i := 9) (N := some 8) (v := ?_) (a' := ?_) #[true, true, true, true, true, true, true, true, true, true] rfl rfl (by kernel_rfl) (fun _ _ _ h => h) (Or.inl ⟨by rfl, ?_⟩) ?_ ?_
  rotate_left
  · intro w'
    go_simp
    with_reducible rfl
  rotate_left
  · simp only [Act.put, List.setIfInBounds_toArray, List.set_cons_zero, List.set_cons_succ, i64_w, i32_w]
    rfl
  refine done_ (by kernel_rfl) ?_
  have hw2 : Go.RowKit.wrap64 2 = 2 := by unfold Go.RowKit.wrap64; omega
  go_wp2
  rw [rounds_succ]
  go_wp2
  go_ret
  exact ⟨_, _, rfl, Nat.le_refl _, fun _ => ⟨_, rfl, Nat.le_of_eq HG.out.symm, fun j hj => by
    have hj2 : j = 0 ∨ j = 1 := by omega
    rcases hj2 with rfl | rfl
    · exact (cells2 (blk_drew (blk_put HX2.out 1 _ rfl))).1
    · exact (cells2 (blk_drew (blk_put HX2.out 1 _ rfl))).2.1⟩, below_drew (below_set HB2.out (by rw [HG.out]; exact Nat.le_refl _))⟩
theorem rep_any (b o c n : Nat) (hn : n ≤ 2) (s : ByteArray) (w : World) (hc : 1 ≤ c) (hb : w.cell? ⟨b, o, none⟩ = some (.string s)) :
    Calls Tryz.prog 164 #[.slice (some ⟨b, o, none⟩) 1 c, .int .i64 (n : Nat)] w (RepEnd n s w) := by
  have : n = 0 ∨ n = 1 ∨ n = 2 := by omega
  rcases this with rfl | rfl | rfl
  · exact rep_0 b o c s w hc hb
  · exact rep_1 b o c s w hc hb
  · exact rep_2 b o c s w hc hb
theorem repOK {A : Ann} : ExtOK Tryz.prog A 164 repQ := by
  refine ext_of fun cs r hr => ?_
  unfold repQ at hr
  split at hr
  · rename_i s n
    split at hr
    · rename_i hn
      cases hr
      refine ⟨_, rfl, fun w0 w F vals _ _ hF ha => ?_⟩
      simp only [RA] at ha
      obtain ⟨u, r, hv, h1, h2, u', r', rfl, h3, h4, rfl⟩ := ha
      have hu : u.cells.toList = [u] := by cases u <;> simp [aggV, C.isAgg, Value.cells] at h2 ⊢
      have hu' : u'.cells.toList = [u'] := by cases u' <;> simp [aggV, C.isAgg, Value.cells] at h4 ⊢
      rw [hu] at h1
      rw [hu'] at h3
      simp only [RC, List.cons.injEq, and_true] at h1 h3
      obtain ⟨a, k, c, rfl, rfl, hc, hne⟩ := h1
      obtain ⟨rfl, _⟩ := h3
      obtain ⟨b, o, sz, rfl, hE⟩ := hne (by simp)
      simp only [RE, RC] at hE
      obtain ⟨⟨vs, e1, e2, e3, _⟩, _⟩ := hE
      subst e3
      have hcell := hF.c _ _ _ (e2 0 (.string s) rfl)
      have ev : vals = #[.slice (some ⟨b, o, none⟩) 1 c, .int .i64 n] := by
        have := congrArg List.toArray hv
        simpa using this
      subst ev
      obtain ⟨k, rfl⟩ : ∃ k : Nat, n = k := ⟨n.toNat, by omega⟩
      refine (rep_any b o c k (by omega) s w hc (by simpa using hcell)).mono ?_
      rintro e w' ⟨A2, c2, rfl, h5, h6, h7⟩
      refine ⟨_, rfl, h7, ?_, rfl⟩
      simp only [Value.cells, RC]
      refine ⟨A2, k, c2, rfl, by simp, h5, fun hne => ?_⟩
      obtain ⟨g, rfl, hge, hg⟩ := h6 (by rintro rfl; simp at hne)
      refine ⟨g, 0, 1, rfl, RE_of fun i x hx => ?_⟩
      have hi : i < k := by have := (List.getElem?_eq_some_iff.1 hx).1; simpa using this
      obtain rfl : x = .v (.string s) := by
        rw [List.getElem?_replicate] at hx
        split at hx
        · exact (Option.some.inj hx).symm
        · cases hx
      refine ⟨[.string s], rfl, fun j u hj => ?_, by simp [RC, Value.oneCell']⟩
      have hj0 : j = 0 := by have := (List.getElem?_eq_some_iff.1 hj).1; simpa using this
      subst hj0
      simp at hj
      subst hj
      have hng : ¬ g < w.heap.size := by omega
      simp only [newF, hng, if_false]
      simpa using hg i hi
    · cases hr
  · cases hr
end Go.Eng
