-- own work: an evaluator of the program's code, and what it answers
import Derived.Test.YtdmoipccmbimhaaGreatDoorEngC
import Derived.RangeFuncNested
import Derived.RangeFuncBox
import Derived.RangeFuncBound
import Derived.RangeFuncCalls
import Derived.RangeFuncLeaves
import Derived.Shelf.Abstract
import Derived.Shelf.RegionOpen
import Derived.WalkKit
import Derived.OwnWalkIn
import Derived.TacticsInMore
import Derived.LoopNIn
import Derived.LoopIn
import Derived.LoopN
import Derived.Laws.EntriesVeiled
import Derived.Test.YtdmoipccmbimhaaGreatDoorProg
import Derived.Test.YtdmoipccmbimhaaGreatDoorTermPart2
/- The parts of a term, one behind the other: what the iterator hands on, and how many they are. -/
set_option linter.unusedVariables false
set_option linter.unusedSimpArgs false
namespace Go.Eng
open Go Go.RowKit Go.Proofs
theorem room_none {F : Fence} (hd : F.depth = none) (k : Nat) : F.room k := fun d h => by rw [hd] at h; cases h
section
open Go.Shelf
def TC (w : World) (A : Option Addr) (l : List Tm) : Prop := l.length ≤ maxLen ∧ (∀ x ∈ l, okT x) ∧ (l ≠ [] → ∃ b o s, A = some ⟨b, o, none⟩ ∧ RE (memF w) b o s (l.map encT))
attribute [local go_sem] Oper.semAt_some
/-- A part of a term, as it stands in memory. -/
structure TP (w0 : World) where
  op : Int
  nm : ByteArray
  nu : Int
  l : List Tm
  A : Option Addr
  c : Nat
  h : l.length ≤ c ∧ TC w0 A l
def TP.encs {w0 : World} (x : TP w0) : Array Value := #[.agg #[.int .i64 x.op, .string x.nm, .int .i64 x.nu, .slice x.A x.l.length x.c]]
def TP.key {w0 : World} (x : TP w0) : Int × ByteArray × Int × Nat := (x.op, x.nm, x.nu, x.l.length)
mutual
def keysT : Tm → List (Int × ByteArray × Int × Nat)
  | .mk op nm nu l => (op, nm, nu, l.length) :: keysL l
def keysL : List Tm → List (Int × ByteArray × Int × Nat)
  | [] => []
  | x :: l => keysT x ++ keysL l
end
theorem keysT_eq (x : Tm) : keysT x = (x.op, x.nm, x.nu, x.l.length) :: keysL x.l := by cases x; rfl
theorem keysL_append (b : List Tm) : ∀ l : List Tm, keysL (l ++ b) = keysL l ++ keysL b
  | [] => by simp [keysL]
  | y :: l => by rw [List.cons_append, keysL, keysL, keysL_append b l, List.append_assoc]
theorem keysL_snoc (x : Tm) (l : List Tm) : keysL (l ++ [x]) = keysL l ++ keysT x := by rw [keysL_append, keysL, keysL, List.append_nil]
theorem keysL_take (l : List Tm) (i : Nat) (h : i < l.length) : keysL (l.take (i + 1)) = keysL (l.take i) ++ keysT l[i] := by
  rw [List.take_succ_eq_append_getElem h, keysL_snoc]
theorem keysL_pre (l : List Tm) (i : Nat) : keysL (l.take i) <+: keysL l := ⟨keysL (l.drop i), by rw [← keysL_append, List.take_append_drop]⟩
theorem RoundIn.any_depth {F : Fence} (hd : F.depth = none) {m m' : Nat} {P : Program} {l : Nat} {f : FuncId} {tmps : Array Value} {assign body : Code} {w : World} {R : Ending → World → Prop}
    (h : RoundIn F m P l f tmps assign body w R) : RoundIn F m' P l f tmps assign body w R := ⟨h.1, fun c cs _ => h.2 c cs (room_none hd _)⟩
theorem YieldAt.any_depth {F : Fence} (hd : F.depth = none) {m : Nat} (m' : Nat) {P : Program} {l : Nat} {args : Array Value} {W : World} {R : Ending → World → Prop} (h : YieldAt F m P l args W R) : YieldAt F m' P l args W R := by
  obtain ⟨fn, tmps, assign, body, hy, hR⟩ := h
  exact ⟨fn, tmps, assign, body, hy, RoundIn.any_depth hd hR⟩
/-- What a round that goes on keeps: whatever lay ahead of the call; of what was laid since the loop began, the cells. -/
def KpW (n₀ n₁ : Nat) (W W' : World) : Prop := Below n₀ W W' ∧ ∀ (k : Nat) (cs : Array Value) (t : TypeId), n₁ ≤ k → W.heap[k]? = some (.cells cs t (0, 0)) → W'.heap[k]? = some (.cells cs t (0, 0))
/-- the facts of a part in a list, in a later world -/
theorem addr_add (b o k : Nat) : (⟨b, o, none⟩ : Addr).add k = ⟨b, o + k, none⟩ := by
  unfold Addr.add
  by_cases h : k = 0 <;> simp [h]
theorem arg_at {w0 W : World} {A : Option Addr} {l : List Tm} (h : TC w0 A l) (HB : Below w0.heap.size w0 W) (j : Nat) (hj : j < l.length) :
    ∃ ad A3 c3, A = some ad ∧ W.cell? (ad.add (j * 4)) = some (.int .i64 (l[j]).op) ∧ W.cell? ⟨(ad.add (j * 4)).block, (ad.add (j * 4)).off + 1, none⟩ = some (.string (l[j]).nm) ∧ W.cell? ⟨(ad.add (j * 4)).block, (ad.add (j * 4)).off + 2, none⟩ = some (.int .i64 (l[j]).nu) ∧ W.cell? ⟨(ad.add (j * 4)).block, (ad.add (j * 4)).off + 3, none⟩ = some (.slice A3 (l[j]).l.length c3) ∧ (l[j]).l.length ≤ c3 ∧ TC w0 A3 (l[j]).l := by
  obtain ⟨h1, h2, h3⟩ := h
  obtain ⟨b, o, s, rfl, hre⟩ := h3 (fun e => by rw [e] at hj; simp at hj)
  obtain ⟨vs, hvs, hat, hrc⟩ := RE.get hre (i := j) (y := encT l[j]) (by simp [List.getElem?_eq_getElem hj])
  have hok := h2 _ (List.getElem_mem hj)
  generalize l[j] = tx at hrc hok ⊢
  obtain ⟨op, nm, nu, ar⟩ := tx
  rw [encT_mk] at hrc
  simp only [RC, RL] at hrc
  obtain ⟨u0, r0, rfl, ⟨k0, _⟩, _, u1, r1, rfl, ⟨k1, _⟩, _, u2, r2, rfl, ⟨k2, _⟩, _, u3, r3, rfl, ⟨a, n, c, k3, hn, hc, hne⟩, _, rfl⟩ := hrc
  simp only [List.cons.injEq, and_true] at k0 k1 k2 k3
  subst k0 k1 k2 k3
  obtain rfl : s = 4 := by simpa using hvs.symm
  have c0 := hat 0 _ rfl
  have c1 := hat 1 _ rfl
  have c2 := hat 2 _ rfl
  have c3 := hat 3 _ rfl
  simp only [memF, Nat.add_zero] at c0 c1 c2 c3
  rw [List.length_map] at hn
  subst hn
  exact ⟨_, a, c, rfl, by rw [addr_add]; exact (HB.cell (World.block_lt_of_cell? w0 _ c0)).trans c0, by rw [addr_add]; exact (HB.cell (World.block_lt_of_cell? w0 _ c1)).trans c1, by rw [addr_add]; exact (HB.cell (World.block_lt_of_cell? w0 _ c2)).trans c2, by rw [addr_add]; exact (HB.cell (World.block_lt_of_cell? w0 _ c3)).trans c3, hc, hok.len, fun x hx => hok.arg hx, fun hl => by
    obtain ⟨b3, o3, s3, e, k⟩ := hne (by simpa [Tm.l] using hl)
    exact ⟨b3, o3, s3, e, k⟩⟩
theorem grown_alloc {W W1 : World} (h : W.grownBy W1 none) (o : Obj) : W.grownBy (W1.alloc o) none := by
  have h2 := World.grownBy_alloc W1 o none
  exact ⟨h2.os.trans h.os, h2.tape.trans h.tape, h2.output.trans h.output, Nat.le_trans h.size h2.size, fun k hk hn => (h2.block k (Nat.lt_of_lt_of_le hk h.size) hn).trans (h.block k hk hn)⟩
set_option maxRecDepth 100000 in
set_option maxHeartbeats 4000000 in
theorem walkB (F : Fence) (hd : F.depth = none) (h_term_walk : F.fn 172) (hro : F.round = none) (l n₁ N : Nat) (w0 : World) (J Jx : List (TP w0) → World → Prop)
    (hJ : ∀ s W W', J s W → W.grownBy W' none → J s W')
    (hY : ∀ m pre (x : TP w0) W, J pre W → pre.length < N → YieldAt F m Tryz.prog l x.encs W fun e W' =>
      (e = .returned (.bool true) ∧ J (pre ++ [x]) W' ∧ KpW w0.heap.size n₁ W W') ∨ (e = .returned (.bool false) ∧ Jx (pre ++ [x]) W')) (d : Nat) :
    ∀ (x : Tm) (n : Nat) (A : Option Addr) (c : Nat) (pre : List (TP w0)) (W : World), SizeOf.sizeOf x ≤ d → x.l.length ≤ c → TC w0 A x.l → Below w0.heap.size w0 W → n₁ ≤ W.heap.size → J pre W → pre.length + (keysT x).length ≤ N →
      CallsIn F n Tryz.prog 172 #[.agg #[.int .i64 x.op, .string x.nm, .int .i64 x.nu, .slice A x.l.length c], .func (.yield l) #[] #[]] W fun e W' =>
        (e = .returned (.bool true) ∧ ∃ q : List (TP w0), q.map TP.key = keysT x ∧ J (pre ++ q) W' ∧ Below w0.heap.size w0 W' ∧ W.heap.size ≤ W'.heap.size) ∨ (e = .returned (.bool false) ∧ ∃ q : List (TP w0), (q.map TP.key <+: keysT x) ∧ Jx (pre ++ q) W') := by
  induction d with
  | zero => intro x n A c pre W hx; cases x; simp at hx
  | succ d ih =>
    intro x n A c pre W hx hc hC HB hn₁ hJ0 hN
    have hdd : ∀ k : Nat, (F.depth.isSome = true → 1 ≤ k) := fun k h => by rw [hd] at h; cases h
    obtain ⟨xop, xnm, xnu, xl⟩ := x
    rw [keysT_eq] at hN
    dsimp only [Tm.op, Tm.nm, Tm.nu, Tm.l] at hc hC hN ⊢
    simp only [List.length_cons] at hN
    have hg1 : W.grownBy (W.alloc (.cells #[.int .i64 xop, .string xnm, .int .i64 xnu, .slice A xl.length c] 57)) none := World.grownBy_alloc W _ none
    have htp : xl.length ≤ c ∧ TC w0 A xl := ⟨hc, hC⟩
    obtain ⟨fn, tmps, assign, body, hy, hR⟩ := hY (n - 1) pre ⟨xop, xnm, xnu, xl, A, c, htp⟩ _ (hJ _ _ _ hJ0 hg1) (by omega)
    dsimp only [TP.encs] at hy
    have hxl : xl.length ≤ 9223372036854775807 := hC.1
    have HC := Aside0.mk hC
    have HBA := Aside0.mk HB
    have HJ := Aside0.mk hJ
    have HJ0 := Aside0.mk hJ0
    have HG1 := Aside0.mk hg1
    have HYA := Aside0.mk hY
    have IH := Aside0.mk ih
    clear hC HB hJ hJ0 hg1 hY ih
    refine callsIn_of_wp Tryz.func172 rfl h_term_walk ?_ hro
    simp only [Tryz.ntmps172, List.size_toArray, List.length_cons, List.length_nil, Nat.reduceAdd, Nat.reduceSub, Array.replicate_succ, Array.replicate_zero, List.push_toArray, List.append_toArray, List.nil_append, List.cons_append]
    gi_wp2
    refine hR.mono ?_
    clear hR hy
    rintro e W3 (⟨rfl, hJ3, hk3⟩ | ⟨rfl, hx3⟩)
    · have hb3 := hk3.2 _ _ _ hn₁ (blk_new W (.cells #[.int .i64 xop, .string xnm, .int .i64 xnu, .slice A xl.length c] 57))
      have p3 : W3.cell? ⟨W.heap.size, 3, none⟩ = some (.slice A xl.length c) := (blk_cell hb3 3).trans rfl
      have hB3 : Below w0.heap.size w0 W3 := (below_alloc HBA.out _).trans hk3.1
      have hz3 : W.heap.size ≤ W3.heap.size := by have := hk3.1.size; simp at this; omega
      have HJ3 := Aside0.mk hJ3
      have HB3 := Aside0.mk hB3
      clear hJ3 hk3 hb3 hB3
      gi_wp2
      gi_loopw [14] (fun u wr => ∃ (i : Nat) (q : List (TP w0)), u = .int .i64 i ∧ i ≤ xl.length ∧ Aside0 (q.map TP.key = (xop, xnm, xnu, xl.length) :: keysL (xl.take i)) ∧ Aside0 (J (pre ++ q) wr) ∧ Aside0 (Below w0.heap.size w0 wr) ∧ W.heap.size ≤ wr.heap.size) (fun u _ => xl.length - (intOf u).toNat)
      case atStart => exact ⟨0, [⟨xop, xnm, xnu, xl, A, c, htp⟩], rfl, Nat.zero_le _, ⟨rfl⟩, HJ3, HB3, hz3⟩
      case round =>
        clear HJ3 HB3 p3 hz3
        obtain ⟨i, q, rfl, hi, HQ, HJr, HBr, hzr⟩ := hrel
        by_cases hlt : i < xl.length
        · obtain ⟨ad, A3, c3, rfl, h0, h1, h2, h3, hl3, hc3⟩ := arg_at HC.out HBr.out i hlt
          have hsz : SizeOf.sizeOf xl[i] ≤ d := by
            have := List.sizeOf_lt_of_mem (List.getElem_mem hlt)
            simp at hx
            omega
          have hkt := keysL_take xl i hlt
          have hkp := (keysL_pre xl (i + 1)).length_le
          have hql : q.length = (keysL (xl.take i)).length + 1 := by
            have := congrArg List.length HQ.out
            simpa using this
          rw [hkt, List.length_append] at hkp
          have HKT := Aside0.mk hkt
          have HC3 := Aside0.mk hc3
          clear hkt hc3
          gi_wp2
          refine (IH.out xl[i] (n - 1) A3 c3 (pre ++ q) _ hsz hl3 HC3.out (below_alloc HBr.out _) (by simp; omega) (HJ.out _ _ _ HJr.out (World.grownBy_alloc wr _ none)) (by rw [List.length_append]; omega)).mono ?_
          rintro e W4 (⟨rfl, q2, hq2, hJ4, hB4, hz4⟩ | ⟨rfl, q2, hq2, hx4⟩)
          · have HQ2 := Aside0.mk hq2
            have HJ4 := Aside0.mk hJ4
            have HB4 := Aside0.mk hB4
            clear hq2 hJ4 hB4
            gi_wp2
            go_roundw
            case rel => exact ⟨i + 1, q ++ q2, by go_num, by omega, ⟨by rw [List.map_append, HQ.out, HQ2.out, HKT.out, List.cons_append]⟩, ⟨by rw [← List.append_assoc]; exact HJ4.out⟩, HB4, by rw [World.size_alloc] at hz4; omega⟩
            case measure => simp [intOf]; omega
          · have HQ2 := Aside0.mk hq2
            have HX4 := Aside0.mk hx4
            clear hq2 hx4
            gi_wp2
            go_ret
            refine .inr ⟨rfl, q ++ q2, ?_, by rw [← List.append_assoc]; exact HX4.out⟩
            obtain ⟨r1, hr1⟩ := HQ2.out
            obtain ⟨r2, hr2⟩ := keysL_pre xl (i + 1)
            refine ⟨r1 ++ r2, ?_⟩
            simp only [keysT_eq, Tm.op, Tm.nm, Tm.nu, Tm.l]
            rw [List.map_append, HQ.out, ← hr2, HKT.out, ← hr1]
            simp
        · obtain rfl : i = xl.length := by omega
          gi_wp2
          go_ret
          refine .inl ⟨rfl, q, ?_, HJr.out, HBr.out, hzr⟩
          rw [HQ.out, List.take_length, keysT_eq]; rfl
    · have HX3 := Aside0.mk hx3
      clear hx3
      gi_wp2
      go_ret
      refine .inr ⟨rfl, [⟨xop, xnm, xnu, xl, A, c, htp⟩], ?_, HX3.out⟩
      exact ⟨keysL xl, by rw [keysT_eq]; rfl⟩
theorem kpW_t {n₀ n₁ : Nat} {A B C : World} (h : KpW n₀ n₁ A B) (k : KpW n₀ n₁ B C) : KpW n₀ n₁ A C := ⟨h.1.trans k.1, fun i cs t hi hc => k.2 i cs t hi (h.2 i cs t hi hc)⟩
theorem kpW_b {n₀ n₁ : Nat} {w : World} (hn : n₀ ≤ w.heap.size) (W : World) (l : Nat) (o o' : Obj) (hl : w.heap.size ≤ l) (h : W.heap[l]? = some o) (hc : o.isCells = false) (hw : o.isWalk = false) : KpW n₀ n₁ W (W.putObj l o') :=
  ⟨belowK_b hn W l o o' hl h hc hw, fun k cs t hk hcs => by
    refine (World.putObj_heap_other (fun e => ?_)).trans hcs
    subst e
    rw [h] at hcs
    cases hcs
    cases hc⟩
theorem kpW_set {n₀ n₁ b : Nat} (h0 : n₀ ≤ b) (h1 : b < n₁) {W : World} (v : Value) : KpW n₀ n₁ W (W.setCell ⟨b, 0, none⟩ v) :=
  ⟨(Below.refl n₀ W).setCell (p := ⟨b, 0, none⟩) h0 v, fun k cs t hk hc => ((grownBy_setCell' W b v).block k (Array.getElem?_eq_some_iff.1 hc).1 (fun e => by cases e; omega)).trans hc⟩
set_option maxHeartbeats 1000000 in
theorem all_in (F : Fence) (n : Nat) (h_term_all : F.fn 162) (hro : F.round = none) (v : Value) (xop : Int) (xnm : ByteArray) (xnu : Int) (A : Option Addr) (m c : Nat) (w : World) :
    CallsIn F n Tryz.prog 162 #[.agg #[.int .i64 xop, .string xnm, .int .i64 xnu, .slice A m c]] w fun e w' => e = .returned (.func (.func 171) #[] #[.pointer (some ⟨w.heap.size, 0, none⟩)]) ∧ w' = w.alloc (.cells #[.int .i64 xop, .string xnm, .int .i64 xnu, .slice A m c] 57) := by
  refine callsIn_of_wp Tryz.func162 rfl h_term_all ?_ hro
  simp only [Tryz.ntmps162, List.size_toArray, List.length_cons, List.length_nil, Nat.reduceAdd, Nat.reduceSub, Array.replicate_succ, Array.replicate_zero, List.push_toArray, List.append_toArray, List.nil_append, List.cons_append]
  gi_wp2
  go_ret
  exact ⟨rfl, rfl⟩
set_option maxHeartbeats 1000000 in
theorem all1_in (F : Fence) (hd : F.depth = none) (n : Nat) (h_term_all_1 : F.fn 171) (h_term_walk : F.fn 172) (hro : F.round = none) (l Bt n₁ : Nat) (w0 : World) (x : Tm) (A : Option Addr) (c : Nat) (J Jx : List (TP w0) → World → Prop) (W : World)
    (hJ : ∀ s W W', J s W → W.grownBy W' none → J s W')
    (hY : ∀ pre (x' : TP w0) W, J pre W → pre.length < (keysT x).length → YieldAt F (n - 1) Tryz.prog l x'.encs W fun e W' =>
      (e = .returned (.bool true) ∧ J (pre ++ [x']) W' ∧ KpW w0.heap.size n₁ W W') ∨ (e = .returned (.bool false) ∧ Jx (pre ++ [x']) W'))
    (hBt : W.heap[Bt]? = some (.cells #[.int .i64 x.op, .string x.nm, .int .i64 x.nu, .slice A x.l.length c] 57 (0, 0))) (hl : x.l.length ≤ c) (hC : TC w0 A x.l) (HB : Below w0.heap.size w0 W) (hn₁ : n₁ ≤ W.heap.size) (h0 : J [] W) :
    CallsIn F n Tryz.prog 171 #[.func (.yield l) #[] #[], .pointer (some ⟨Bt, 0, none⟩)] W fun e W' => (∃ v, e = .returned v) ∧
      ((∃ ys : List (TP w0), ys.map TP.key = keysT x ∧ J ys W') ∨ (∃ pre : List (TP w0), pre.map TP.key <+: keysT x ∧ Jx pre W')) := by
  have hdd : ∀ k : Nat, (F.depth.isSome = true → 1 ≤ k) := fun k h => by rw [hd] at h; cases h
  have hp := walkB F hd h_term_walk hro l n₁ (keysT x).length w0 J Jx hJ (fun m pre x' W hj hl => YieldAt.any_depth hd m (hY pre x' W hj hl)) (SizeOf.sizeOf x) x (n - 1) A c [] W (Nat.le_refl _) hl hC HB hn₁ h0 (by simp)
  obtain ⟨xop, xnm, xnu, xl⟩ := x
  dsimp only [Tm.op, Tm.nm, Tm.nu, Tm.l] at hBt hp
  have p0 : W.cell? ⟨Bt, 0, none⟩ = some (.int .i64 xop) := (blk_cell hBt 0).trans rfl
  have p1 : W.cell? ⟨Bt, 1, none⟩ = some (.string xnm) := (blk_cell hBt 1).trans rfl
  have p2 : W.cell? ⟨Bt, 2, none⟩ = some (.int .i64 xnu) := (blk_cell hBt 2).trans rfl
  have p3 : W.cell? ⟨Bt, 3, none⟩ = some (.slice A xl.length c) := (blk_cell hBt 3).trans rfl
  have HP := Aside0.mk hp
  clear hp hBt hC HB h0 hJ hY
  refine callsIn_of_wp Tryz.func171 rfl h_term_all_1 ?_ hro
  simp only [Tryz.ntmps171, List.size_toArray, List.length_cons, List.length_nil, Nat.reduceAdd, Nat.reduceSub, Array.replicate_succ, Array.replicate_zero, List.push_toArray, List.append_toArray, List.nil_append, List.cons_append]
  gi_wp2
  refine HP.out.mono ?_
  rintro e W1 (⟨rfl, q, hq, hJ1, _⟩ | ⟨rfl, q, hq, hx⟩)
  · have HQ := Aside0.mk hq
    have HJ1 := Aside0.mk hJ1
    clear hq hJ1
    gi_wp2
    go_end0
    exact ⟨⟨_, rfl⟩, .inl ⟨_, HQ.out, HJ1.out⟩⟩
  · have HQ := Aside0.mk hq
    have HJ1 := Aside0.mk hx
    clear hq hx
    gi_wp2
    go_end0
    exact ⟨⟨_, rfl⟩, .inr ⟨q, HQ.out, HJ1.out⟩⟩
theorem all_stops (F : Fence) (hd : F.depth = none) (n : Nat) (h_term_all_1 : F.fn 171) (h_term_walk : F.fn 172) (hro : F.round = none) (Bt n₁ : Nat) (w0 : World) (x : Tm) (A : Option Addr) (c : Nat) (w : World)
    (hBt : w.heap[Bt]? = some (.cells #[.int .i64 x.op, .string x.nm, .int .i64 x.nu, .slice A x.l.length c] 57 (0, 0))) (hl : x.l.length ≤ c) (hC : TC w0 A x.l) (HB : Below w0.heap.size w0 w) (hn₁ : n₁ ≤ w.heap.size) :
    SeqStopsK F n Tryz.prog 171 #[.pointer (some ⟨Bt, 0, none⟩)] (TP.encs (w0 := w0)) (KpW w0.heap.size n₁) (fun ys => ys.map TP.key = keysT x) (fun pre => pre.map TP.key <+: keysT x) (keysT x).length w := fun l J Jx W hW hJ _ hY h0 =>
  all1_in F hd n h_term_all_1 h_term_walk hro l Bt n₁ w0 x A c J Jx W (fun s W W' hs hg => hJ s W W' none hs hg (fun r e => by cases e)) hY (blk_below hBt hW) hl hC (HB.trans (hW.mono HB.size)) (Nat.le_trans hn₁ hW.size) h0
set_option maxRecDepth 100000 in
set_option maxHeartbeats 4000000 in
theorem size_in (F : Fence) (hd : F.depth = none) (n : Nat) (h_term_Size : F.fn 157) (h_term_all : F.fn 162) (h_term_all_1 : F.fn 171) (h_term_walk : F.fn 172) (hro : F.round = none) (hn : 3 ≤ n) (x : Tm) (A : Option Addr) (c : Nat) (w : World) (hl : x.l.length ≤ c) (hC : TC w A x.l) :
    CallsIn F n Tryz.prog 157 #[.agg #[.int .i64 x.op, .string x.nm, .int .i64 x.nu, .slice A x.l.length c]] w fun e W' => e = .returned (.int .i64 (Nat.min (keysT x).length 4097 : Nat)) ∧ Below w.heap.size w W' := by
  have h1 : 1 ≤ n := by omega
  obtain ⟨W0, hW0⟩ : ∃ W0, ((w.alloc (.cells #[.int .i64 x.op, .string x.nm, .int .i64 x.nu, .slice A x.l.length c] 57)).alloc (.cells #[.int .i64 0] 3)).alloc (.cells #[.int .i64 x.op, .string x.nm, .int .i64 x.nu, .slice A x.l.length c] 57) = W0 := ⟨_, rfl⟩
  have hst := all_stops F hd (n - 1) h_term_all_1 h_term_walk hro (w.heap.size + 1 + 1) (w.heap.size + 3) w x A c W0 (by rw [← hW0]; simpa using blk_new ((w.alloc (.cells #[.int .i64 x.op, .string x.nm, .int .i64 x.nu, .slice A x.l.length c] 57)).alloc (.cells #[.int .i64 0] 3)) _) hl hC (by rw [← hW0]; exact below_alloc (below_alloc (below_alloc (Below.refl _ _) _) _) _) (by rw [← hW0]; simp)
  have bN : Boxed W0 (w.heap.size + 1) 3 (.int .i64 0) := by
    have := (Boxed.new (w.alloc (.cells #[.int .i64 x.op, .string x.nm, .int .i64 x.nu, .slice A x.l.length c] 57)) 3 (.int .i64 0)).alloc (.cells #[.int .i64 x.op, .string x.nm, .int .i64 x.nu, .slice A x.l.length c] 57)
    rw [hW0] at this
    simpa using this
  have hsz : W0.heap.size = w.heap.size + 3 := by rw [← hW0]; simp
  have hB0 : Below w.heap.size w W0 := by rw [← hW0]; exact below_alloc (below_alloc (below_alloc (Below.refl _ _) _) _) _
  obtain ⟨xop, xnm, xnu, xl⟩ := x
  dsimp only [Tm.op, Tm.nm, Tm.nu, Tm.l] at hW0 hst hl hC ⊢
  have HST := Aside0.mk hst
  clear hst hC
  refine callsIn_of_wp_marks Tryz.func157 rfl h_term_Size ?_ hro
  simp only [Tryz.ntmps157, List.size_toArray, List.length_cons, List.length_nil, Nat.reduceAdd, Nat.reduceSub, Array.replicate_succ, Array.replicate_zero, List.push_toArray, List.append_toArray, List.nil_append, List.cons_append]
  have HW0 := Aside0.mk hW0
  have HSZ := Aside0.mk hsz
  clear hW0 hsz
  gi_wp2_with (gi_at_call 162; refine (all_in F (n - 1) h_term_all hro undef _ _ _ _ _ _ _).mono ?_; rintro e w' ⟨rfl, rfl⟩)
  rw [HW0.out]
  have hsz := HSZ.out
  refine wpIn_rangeFunc_ownF hro h1 (gf := 171) (lb := #[.pointer (some ⟨w.heap.size + 1 + 1, 0, none⟩)]) rfl h_term_all_1 (enters_of Tryz.func171 (by kernel_rfl) rfl)
    HST.out kpW_t (kpW_b (by omega)) (Below.refl _ _) (fun _ => rfl)
    (fun pre W => (pre.length ≤ 4096 ∧ Boxed W (w.heap.size + 1) 3 (.int .i64 (pre.length : Nat))) ∧ Below w.heap.size w W)
    (fun c pre W => ((c = .exit 0 ∧ pre.length = 4097) ∧ Boxed W (w.heap.size + 1) 3 (.int .i64 (4097 : Nat))) ∧ Below w.heap.size w W)
    (OwnFrom.and (OwnFrom.and (ownFrom_pure _ _) (Own.from (boxed_own _ _ _) _)) (ownFrom_below (Nat.le_refl _) (by omega)))
    (fun c => OwnFrom.and (OwnFrom.and (ownFrom_pure _ _) (Own.from (boxed_own _ _ _) _)) (ownFrom_below (Nat.le_refl _) (by omega)))
    ⟨⟨by simp, bN⟩, hB0⟩
    (fun x' => { tmps := #[.agg #[.int .i64 xop, .string xnm, .int .i64 xnu, .slice A xl.length c], .pointer (some ⟨w.heap.size, 0, none⟩), .int .i64 0, .pointer (some ⟨w.heap.size + 1, 0, none⟩), .agg #[.int .i64 xop, .string xnm, .int .i64 xnu, .slice A xl.length c], .func (.func 171) #[] #[.pointer (some ⟨w.heap.size + 1 + 1, 0, none⟩)], (.agg #[.int .i64 x'.op, .string x'.nm, .int .i64 x'.nu, .slice x'.A x'.l.length x'.c]), undef, undef, undef, undef, undef], defers := [] }) ?assign ?body ?done ?stop
  case assign =>
    intro l x W K hK
    gi_wp2
    simpa [TP.encs] using hK
  case body =>
    rintro l pre x W ⟨⟨hp, hb⟩, hB⟩ _
    have hc := hb.cell
    have hf := hb.frozen
    have hkp : ∀ v, KpW w.heap.size (w.heap.size + 3) W (W.setCell ⟨w.heap.size + 1, 0, none⟩ v) := fun v => kpW_set (by omega) (by omega) v
    by_cases hlt : pre.length < 4096
    · have hd0 : decide (4096 < (pre.length : Int) + 1) = false := decide_eq_false (by omega)
      gi_wp2
      exact ⟨KeepsOthers.setCell _ _ _, hkp _, ⟨by simp; omega, by have := hb.set (.int .i64 ((pre.length : Int) + 1)); simpa using this⟩, below_set hB (by omega)⟩
    · have hd0 : decide (4096 < (pre.length : Int) + 1) = true := decide_eq_true (by omega)
      have he : (pre.length : Int) + 1 = ((4097 : Nat) : Int) := by omega
      have hb2 := hb.set (.int .i64 ((pre.length : Int) + 1))
      rw [he] at hb2
      gi_wp2
      exact ⟨KeepsOthers.setCell _ _ _, ⟨⟨rfl, by simp; omega⟩, hb2⟩, below_set hB (by omega)⟩
  case done =>
    rintro D ys W hD hS ⟨⟨hp, hb⟩, hB⟩ hK
    have hc := hb.cell
    have hlen : (keysT (.mk xop xnm xnu xl)).length = ys.length := by rw [← hS, List.length_map]
    have HL := Aside0.mk hlen
    have HS := Aside0.mk hS
    clear hlen hS
    gi_wp2
    refine ⟨by simp, .inl ⟨_, _, rfl, run_takeDeferred hK, ?_⟩⟩
    exact ⟨_, results_tmp rfl _ _ _, by rw [HL.out, show Nat.min ys.length 4097 = ys.length from Nat.min_eq_left (by omega)]; rfl, hB.trans (belowK_b (w := w) (Nat.le_refl _) W D _ _ (by omega) hK rfl rfl)⟩
  case stop =>
    rintro D c pre W hD hS ⟨⟨⟨rfl, hp⟩, hb⟩, hB⟩ hK
    have hc := hb.cell
    have hlen : 4097 ≤ (keysT (.mk xop xnm xnu xl)).length := by
      have := hS.length_le
      rw [List.length_map] at this
      omega
    clear hS
    gi_wp2
    refine ⟨by simp, .inl ⟨_, _, rfl, run_takeDeferred hK, ?_⟩⟩
    exact ⟨_, results_tmp rfl _ _ _, by rw [show Nat.min (keysT (.mk xop xnm xnu xl)).length 4097 = 4097 from Nat.min_eq_right hlen]; rfl, hB.trans (belowK_b (w := w) (Nat.le_refl _) W D _ _ (by omega) hK rfl rfl)⟩
end
end Go.Eng
/- What is wrong with a term: package term's Right, by hand (it ranges over a function). -/
set_option linter.unusedVariables false
set_option linter.unusedSimpArgs false
namespace Go.Eng
open Go Go.RowKit Go.Proofs
section
open Go.Shelf
attribute [local go_sem] Oper.semAt_some
theorem TC.below {w0 w : World} {A : Option Addr} {l : List Tm} (h : TC w0 A l) (hb : Below w0.heap.size w0 w) : TC w A l := by
  obtain ⟨h1, h2, h3⟩ := h
  refine ⟨h1, h2, fun hl => ?_⟩
  obtain ⟨b, o, s, e, k⟩ := h3 hl
  exact ⟨b, o, s, e, RE.mono (memF_le hb) k⟩
theorem rc_term {w : World} {op : Int} {nm : ByteArray} {nu : Int} {l : List Tm} {A : Option Addr} {c : Nat} (hl : l.length ≤ c) (h : TC w A l) : RC (memF w) (encT (.mk op nm nu l)) [.int .i64 op, .string nm, .int .i64 nu, .slice A l.length c] := by
  rw [encT_mk]
  simp only [RC, RL]
  refine ⟨_, _, rfl, ⟨rfl, rfl⟩, rfl, _, _, rfl, ⟨rfl, rfl⟩, rfl, _, _, rfl, ⟨rfl, rfl⟩, rfl, _, _, rfl, ⟨A, l.length, c, rfl, by simp, hl, fun hne => ?_⟩, rfl, rfl⟩
  obtain ⟨b, o, s, e, k⟩ := h.2.2 (by simpa using hne)
  exact ⟨b, o, s, e, k⟩
theorem progT : ProgOK Tryz.prog AnT := ProgOK.of termL (fun f => rfl) (by kernel_rfl) (fun f q h => by cases h)
/-- what the machine answers, one number, the program answers -/
theorem evl_int {A : Ann} (hP : ProgOK Tryz.prog A) {w : World} (hl : A.laid w) (hg : GlobOK A (G0 w)) {f : Nat} {t : Tm} {u : Value} (hu : RC (memF w) (encT t) u.cells.toList) (ha : aggV u = true) {n : Int}
    (h : evL Tryz.prog A 0 f [.c (encT t)] [] = some (.c (.v (.int .i64 n)), [])) : Calls Tryz.prog f #[u] w fun e w' => e = .returned (.int .i64 n) ∧ Below w.heap.size w w' := by
  refine ((evL_ok hP).call _ _ _ _ _ _ h w (fun _ _ => none) (G0 w) w (fun _ => ([], #[])) #[u] (Inv.start hl hg) (fun k hk => by simp at hk) rfl (fun i x v hx hv => ?_) rfl).mono ?_
  · cases i with
    | zero =>
      simp at hx hv
      subst hx hv
      simp only [RV]
      exact ⟨hu, by rw [ha, encT_agg]⟩
    | succ i => simp at hx
  · rintro e w' ⟨v, g', rfl, hi, _, hr⟩
    refine ⟨?_, hi.below⟩
    simp only [RV, RC] at hr
    obtain ⟨⟨k1, _⟩, k2⟩ := hr
    cases v <;> simp [Value.cells, aggV, C.isAgg] at k1 k2
    · obtain ⟨rfl, rfl⟩ := k1; rfl
theorem depth_any (x : Tm) (A : Option Addr) (c : Nat) (w : World) (hok : okT x) (hN : NeedsLaid w) (hl : x.l.length ≤ c) (hC : TC w A x.l) :
    Calls Tryz.prog 161 #[.agg #[.int .i64 x.op, .string x.nm, .int .i64 x.nu, .slice A x.l.length c]] w fun e W' => e = .returned (.int .i64 (min (depT x) 65 : Nat)) ∧ Below w.heap.size w W' := by
  refine evl_int progT hN (glob_ok rfl hN) (t := x) ?_ rfl (tDepth_evT x hok 0 [] (Nat.le_refl _))
  cases x
  exact rc_term hl hC
theorem part_any (op : Int) (nm : ByteArray) (nu : Int) (l : List Tm) (A : Option Addr) (c : Nat) (w : World) (hN : NeedsLaid w) (hl : l.length ≤ c) (hC : TC w A l) :
    Calls Tryz.prog 163 #[.agg #[.int .i64 op, .string nm, .int .i64 nu, .slice A l.length c]] w fun e W' => e = .returned (.int .i64 (partE op nm nu l.length)) ∧ Below w.heap.size w W' :=
  evl_int progT hN (glob_ok rfl hN) (t := .mk op nm nu l) (rc_term hl hC) rfl (part_evT (.mk op nm nu l) 0 [])
theorem size_any (x : Tm) (A : Option Addr) (c : Nat) (w : World) (hl : x.l.length ≤ c) (hC : TC w A x.l) :
    Calls Tryz.prog 157 #[.agg #[.int .i64 x.op, .string x.nm, .int .i64 x.nu, .slice A x.l.length c]] w fun e W' => e = .returned (.int .i64 (Nat.min (keysT x).length 4097 : Nat)) ∧ Below w.heap.size w W' :=
  callsIn_wide.1 (size_in Fence.wide rfl 3 trivial trivial trivial trivial rfl (Nat.le_refl _) x A c w hl hC)
theorem keepsFrom_below {n₀ : Nat} {W W' : World} (h : Below n₀ W W') (hn : W.heap.size ≤ n₀) (B : Nat) : KeepsFrom B W W' :=
  ⟨h.size, fun k o _ hk _ => (h.block k (Nat.lt_of_lt_of_le (Array.getElem?_eq_some_iff.1 hk).1 hn)).trans hk⟩
theorem kpW_below {n₀ n₁ : Nat} {W W' : World} (h : Below W.heap.size W W') (hn : n₀ ≤ W.heap.size) : KpW n₀ n₁ W W' :=
  ⟨h.mono hn, fun k cs t _ hc => (h.block k (Array.getElem?_eq_some_iff.1 hc).1).trans hc⟩
/-- The first error of some parts. -/
def firstE : List (Int × ByteArray × Int × Nat) → Int
  | [] => 0
  | (op, nm, nu, n) :: l => if partE op nm nu n ≠ 0 then partE op nm nu n else firstE l
theorem firstE_append (b : List (Int × ByteArray × Int × Nat)) : ∀ l, firstE (l ++ b) = if firstE l ≠ 0 then firstE l else firstE b
  | [] => by simp [firstE]
  | (op, nm, nu, n) :: l => by
    rw [List.cons_append, firstE, firstE, firstE_append b l]
    by_cases h : partE op nm nu n ≠ 0
    · rw [if_pos h, if_pos h, if_pos h]
    · rw [if_neg h, if_neg h]
set_option maxRecDepth 100000 in
set_option maxHeartbeats 4000000 in
theorem right_deep (x : Tm) (A : Option Addr) (c : Nat) (w : World) (hok : okT x) (hN : NeedsLaid w) (hl : x.l.length ≤ c) (hC : TC w A x.l) (hd : 64 < depT x) :
    CallsIn Fence.wide 3 Tryz.prog 129 #[.agg #[.int .i64 x.op, .string x.nm, .int .i64 x.nu, .slice A x.l.length c]] w fun e W' => e = .returned (.int .i64 6) ∧ Below w.heap.size w W' := by
  have hdep := fun W (hW : Below w.heap.size w W) => depth_any x A c W hok (hN.below hW) hl (hC.below hW)
  rw [Nat.min_eq_right (show 65 ≤ depT x by omega)] at hdep
  obtain ⟨xop, xnm, xnu, xl⟩ := x
  dsimp only [Tm.op, Tm.nm, Tm.nu, Tm.l] at hl hC hdep ⊢
  have HD := Aside0.mk hdep
  clear hdep hC hd hN
  refine callsIn_of_wp_marks Tryz.func129 rfl trivial ?_ rfl
  simp only [Tryz.ntmps129, List.size_toArray, List.length_cons, List.length_nil, Nat.reduceAdd, Nat.reduceSub, Array.replicate_succ, Array.replicate_zero, List.push_toArray, List.append_toArray, List.nil_append, List.cons_append]
  gi_wp2
  refine ⟨trivial, ?_⟩
  refine (callsIn_wide.2 (HD.out _ (below_alloc (below_alloc (Below.refl _ _) _) _))).mono ?_
  rintro e w1 ⟨rfl, hb⟩
  have x1 : w1.heap[w.heap.size + 1]? = some (.cells #[.int .i64 0] 31 (0, 0)) := blk_below (by simpa using blk_new (w.alloc (.cells #[.int .i64 xop, .string xnm, .int .i64 xnu, .slice A xl.length c] 57)) (.cells #[.int .i64 0] 31)) hb
  have c1 := (cells1 x1).1
  have c2 := (cells1 x1).2
  have hB : Below w.heap.size w w1 := below_step (below_alloc (below_alloc (Below.refl _ _) _) _) hb
  have HB := Aside0.mk hB
  have X1 := Aside0.mk x1
  clear hb hB x1
  gi_wp2
  refine ⟨.int .i64 6, ?_, rfl, below_set HB.out (by omega)⟩
  have hc5 := (cells1 (show (w1.setCell ⟨w.heap.size + 1, 0, none⟩ (.int .i64 6)).heap[w.heap.size + 1]? = _ from Boxed.set (t := 31) (.int .i64 6) X1.out)).1
  simp [results, Tryz.f129, go_sem, hc5]
set_option maxRecDepth 100000 in
set_option maxHeartbeats 4000000 in
theorem right_long (x : Tm) (A : Option Addr) (c : Nat) (w : World) (hok : okT x) (hN : NeedsLaid w) (hl : x.l.length ≤ c) (hC : TC w A x.l) (hd : ¬ 64 < depT x) (hs : 4096 < (keysT x).length) :
    CallsIn Fence.wide 3 Tryz.prog 129 #[.agg #[.int .i64 x.op, .string x.nm, .int .i64 x.nu, .slice A x.l.length c]] w fun e W' => e = .returned (.int .i64 2) ∧ Below w.heap.size w W' := by
  have hdep := fun W (hW : Below w.heap.size w W) => depth_any x A c W hok (hN.below hW) hl (hC.below hW)
  have hsz := fun W hW => size_any x A c W hl (hC.below hW)
  rw [Nat.min_eq_left (show depT x ≤ 65 by omega)] at hdep
  rw [show Nat.min (keysT x).length 4097 = 4097 from Nat.min_eq_right (by omega)] at hsz
  have hdd : decide (64 < depT x) = false := decide_eq_false hd
  have hdi : decide (64 < (depT x : Int)) = false := decide_eq_false (by omega)
  obtain ⟨dd, hde⟩ : ∃ dd, dd = depT x := ⟨_, rfl⟩
  rw [← hde] at hdep hdd hdi
  clear hde hd hs
  obtain ⟨xop, xnm, xnu, xl⟩ := x
  dsimp only [Tm.op, Tm.nm, Tm.nu, Tm.l] at hl hC hdep hsz ⊢
  have HD := Aside0.mk hdep
  have HS := Aside0.mk hsz
  clear hdep hC hsz hN
  refine callsIn_of_wp_marks Tryz.func129 rfl trivial ?_ rfl
  simp only [Tryz.ntmps129, List.size_toArray, List.length_cons, List.length_nil, Nat.reduceAdd, Nat.reduceSub, Array.replicate_succ, Array.replicate_zero, List.push_toArray, List.append_toArray, List.nil_append, List.cons_append]
  gi_wp2
  refine ⟨trivial, ?_⟩
  refine (callsIn_wide.2 (HD.out _ (below_alloc (below_alloc (Below.refl _ _) _) _))).mono ?_
  rintro e w1 ⟨rfl, hb⟩
  have x0 : w1.heap[w.heap.size]? = some (.cells #[.int .i64 xop, .string xnm, .int .i64 xnu, .slice A xl.length c] 57 (0, 0)) := blk_below (blk_alloc (blk_new w _) _) hb
  have x1 : w1.heap[w.heap.size + 1]? = some (.cells #[.int .i64 0] 31 (0, 0)) := blk_below (by simpa using blk_new (w.alloc (.cells #[.int .i64 xop, .string xnm, .int .i64 xnu, .slice A xl.length c] 57)) (.cells #[.int .i64 0] 31)) hb
  obtain ⟨p0, p1, p2, p3, _⟩ := cells4 x0
  have hB : Below w.heap.size w w1 := below_step (below_alloc (below_alloc (Below.refl _ _) _) _) hb
  have HB := Aside0.mk hB
  have X1 := Aside0.mk x1
  clear hb hB x1 x0
  gi_wp2
  refine ⟨trivial, ?_⟩
  refine (callsIn_wide.2 (HS.out _ HB.out)).mono ?_
  rintro e w2 ⟨rfl, hb⟩
  have x1 : w2.heap[w.heap.size + 1]? = some (.cells #[.int .i64 0] 31 (0, 0)) := blk_below X1.out hb
  have c1 := (cells1 x1).1
  have c2 := (cells1 x1).2
  have hB : Below w.heap.size w w2 := below_step HB.out hb
  clear X1
  have HB2 := Aside0.mk hB
  have X1 := Aside0.mk x1
  clear hb hB x1 p0 p1 p2 p3
  gi_wp2
  refine ⟨.int .i64 2, ?_, rfl, below_set HB2.out (by omega)⟩
  have hc5 := (cells1 (show (w2.setCell ⟨w.heap.size + 1, 0, none⟩ (.int .i64 2)).heap[w.heap.size + 1]? = _ from Boxed.set (t := 31) (.int .i64 2) X1.out)).1
  simp [results, Tryz.f129, go_sem, hc5]
set_option maxRecDepth 100000 in
set_option maxHeartbeats 4000000 in
theorem right_walk (x : Tm) (A : Option Addr) (c : Nat) (w : World) (hok : okT x) (hL : NeedsLaid w) (hl : x.l.length ≤ c) (hC : TC w A x.l) (hd : ¬ 64 < depT x) (hs : ¬ 4096 < (keysT x).length) :
    CallsIn Fence.wide 3 Tryz.prog 129 #[.agg #[.int .i64 x.op, .string x.nm, .int .i64 x.nu, .slice A x.l.length c]] w fun e W' => e = .returned (.int .i64 (firstE (keysT x))) ∧ Below w.heap.size w W' := by
  have hst := fun W (hW : Below w.heap.size w W) Bt hBt => all_stops Fence.wide rfl 2 trivial trivial rfl Bt W.heap.size w x A c W hBt hl hC hW (Nat.le_refl _)
  have hdep := fun W (hW : Below w.heap.size w W) => depth_any x A c W hok (hL.below hW) hl (hC.below hW)
  have hsz := fun W hW => size_any x A c W hl (hC.below hW)
  rw [Nat.min_eq_left (show depT x ≤ 65 by omega)] at hdep
  rw [show Nat.min (keysT x).length 4097 = (keysT x).length from Nat.min_eq_left (by omega)] at hsz
  have hdd : decide (64 < depT x) = false := decide_eq_false hd
  have hdi : decide (64 < (depT x : Int)) = false := decide_eq_false (by omega)
  have hss : decide (4096 < (keysT x).length) = false := decide_eq_false hs
  have hsi : decide (4096 < ((keysT x).length : Int)) = false := decide_eq_false (by omega)
  obtain ⟨dd, hde⟩ : ∃ dd, dd = depT x := ⟨_, rfl⟩
  rw [← hde] at hdep hdd hdi
  obtain ⟨ks, hks⟩ : ∃ ks, ks = keysT x := ⟨_, rfl⟩
  rw [← hks] at hsz hss hsi ⊢
  simp only [← hks] at hst
  clear hde hd hs hks
  obtain ⟨xop, xnm, xnu, xl⟩ := x
  dsimp only [Tm.op, Tm.nm, Tm.nu, Tm.l] at hl hC hdep hsz hst ⊢
  have HD := Aside0.mk hdep
  have HS := Aside0.mk hsz
  have HST := Aside0.mk hst
  have HL := Aside0.mk hL
  clear hdep hC hsz hst hL
  refine callsIn_of_wp_marks Tryz.func129 rfl trivial ?_ rfl
  simp only [Tryz.ntmps129, List.size_toArray, List.length_cons, List.length_nil, Nat.reduceAdd, Nat.reduceSub, Array.replicate_succ, Array.replicate_zero, List.push_toArray, List.append_toArray, List.nil_append, List.cons_append]
  gi_wp2
  refine ⟨trivial, ?_⟩
  refine (callsIn_wide.2 (HD.out _ (below_alloc (below_alloc (Below.refl _ _) _) _))).mono ?_
  rintro e w1 ⟨rfl, hb⟩
  have x0 : w1.heap[w.heap.size]? = some (.cells #[.int .i64 xop, .string xnm, .int .i64 xnu, .slice A xl.length c] 57 (0, 0)) := blk_below (blk_alloc (blk_new w _) _) hb
  have x1 : w1.heap[w.heap.size + 1]? = some (.cells #[.int .i64 0] 31 (0, 0)) := blk_below (by simpa using blk_new (w.alloc (.cells #[.int .i64 xop, .string xnm, .int .i64 xnu, .slice A xl.length c] 57)) (.cells #[.int .i64 0] 31)) hb
  obtain ⟨p0, p1, p2, p3, _⟩ := cells4 x0
  have hB : Below w.heap.size w w1 := below_step (below_alloc (below_alloc (Below.refl _ _) _) _) hb
  have HB := Aside0.mk hB
  have X1 := Aside0.mk x1
  have X0 := Aside0.mk x0
  clear hb hB x1 x0
  gi_wp2
  refine ⟨trivial, ?_⟩
  refine (callsIn_wide.2 (HS.out _ HB.out)).mono ?_
  rintro e w2 ⟨rfl, hb⟩
  have x0 := blk_below X0.out hb
  have x1 := blk_below X1.out hb
  have hB : Below w.heap.size w w2 := below_step HB.out hb
  clear X1 X0 p0 p1 p2 p3 HB
  obtain ⟨p0, p1, p2, p3, _⟩ := cells4 x0
  have HB := Aside0.mk hB
  have X1 := Aside0.mk x1
  clear hb hB x1 x0
  gi_wp2_with (refine ⟨trivial, ?_⟩; gi_at_call 162; refine (all_in Fence.wide _ trivial rfl undef _ _ _ _ _ _ _).mono ?_; rintro e w' ⟨rfl, rfl⟩)
  have bR : Boxed (w2.alloc (.cells #[.int .i64 xop, .string xnm, .int .i64 xnu, .slice A xl.length c] 57)) (w.heap.size + 1) 31 (.int .i64 0) := Boxed.alloc (show Boxed w2 (w.heap.size + 1) 31 (.int .i64 0) from X1.out) _
  have hB0 : Below w.heap.size w (w2.alloc (.cells #[.int .i64 xop, .string xnm, .int .i64 xnu, .slice A xl.length c] 57)) := below_alloc HB.out _
  have hbt : (w2.alloc (.cells #[.int .i64 xop, .string xnm, .int .i64 xnu, .slice A xl.length c] 57)).heap[w2.heap.size]? = some (.cells #[.int .i64 xop, .string xnm, .int .i64 xnu, .slice A xl.length c] 57 (0, 0)) := blk_new _ _
  obtain ⟨W0, hW0⟩ : ∃ W0, w2.alloc (.cells #[.int .i64 xop, .string xnm, .int .i64 xnu, .slice A xl.length c] 57) = W0 := ⟨_, rfl⟩
  rw [hW0] at bR hB0 hbt ⊢
  clear hW0 X1 HB p0 p1 p2 p3
  have hbl := bR.lt
  refine wpIn_rangeFunc_ownH rfl (by omega) (gf := 171) (lb := #[.pointer (some ⟨w2.heap.size, 0, none⟩)]) rfl trivial (enters_of Tryz.func171 (by kernel_rfl) rfl)
    (HST.out W0 hB0 w2.heap.size hbt) kpW_t (kpW_b hB0.size) (Below.refl _ _) (fun _ => rfl)
    (fun pre W => (firstE (pre.map TP.key) = 0 ∧ Boxed W (w.heap.size + 1) 31 (.int .i64 0)) ∧ Below w.heap.size w W)
    (fun c pre W => ((c = .ret ∧ firstE (pre.map TP.key) ≠ 0) ∧ Boxed W (w.heap.size + 1) 31 (.int .i64 (firstE (pre.map TP.key)))) ∧ Below w.heap.size w W)
    (OwnFrom.and (OwnFrom.and (ownFrom_pure _ _) (Own.from (boxed_own _ _ _) _)) (ownFrom_below (Nat.le_refl _) hB0.size))
    (fun c => OwnFrom.and (OwnFrom.and (ownFrom_pure _ _) (Own.from (boxed_own _ _ _) _)) (ownFrom_below (Nat.le_refl _) hB0.size))
    ⟨⟨rfl, bR⟩, hB0⟩
    (fun x' a' W => ∃ Bx, w.heap.size + 1 < Bx ∧ W.heap[Bx]? = some (.cells #[.int .i64 x'.op, .string x'.nm, .int .i64 x'.nu, .slice x'.A x'.l.length x'.c] 57 (0, 0)) ∧ a' = { tmps := #[.agg #[.int .i64 xop, .string xnm, .int .i64 xnu, .slice A xl.length c], .pointer (some ⟨w.heap.size, 0, none⟩), .pointer (some ⟨w.heap.size + 1, 0, none⟩), .pointer (some ⟨Bx, 0, none⟩), undef, .bool false, .agg #[.int .i64 xop, .string xnm, .int .i64 xnu, .slice A xl.length c], .int .i64 dd, .bool false, .bool false, .agg #[.int .i64 xop, .string xnm, .int .i64 xnu, .slice A xl.length c], .int .i64 ks.length, .bool false, .agg #[.int .i64 xop, .string xnm, .int .i64 xnu, .slice A xl.length c], .func (.func 171) #[] #[.pointer (some ⟨w2.heap.size, 0, none⟩)], .agg #[.int .i64 x'.op, .string x'.nm, .int .i64 x'.nu, .slice x'.A x'.l.length x'.c], undef, undef, undef, undef, undef], defers := [] })
    (fun x' a' _ X Y row hs hg hr => by
      obtain ⟨Bx, e1, e2, e3⟩ := hs
      refine ⟨Bx, e1, (hg.block Bx (Array.getElem?_eq_some_iff.1 e2).1 (fun e => ?_)).trans e2, e3⟩
      obtain ⟨_, o, ho, hc⟩ := hr Bx e.symm
      rw [e2] at ho
      cases ho
      cases hc)
    ?assign ?body ?done ?stop
  case assign =>
    rintro l pre x' W K ⟨⟨hp, bR1⟩, hB1⟩ hK
    have hlt := bR1.lt
    simp [TP.encs]
    gi_wp2
    have hk2 := hK _ _ ((KeepsOthers.alloc _ _).from _) ⟨(Below.refl _ W).alloc hB1.size _, fun k cs t _ hc => (Below.heap_alloc W _ k (Array.getElem?_eq_some_iff.1 hc).1).trans hc⟩ ⟨⟨hp, bR1.alloc _⟩, hB1.alloc hB1.size _⟩ ⟨W.heap.size, by omega, blk_new _ _, rfl⟩
    simpa [TP.encs] using hk2
  case body =>
    rintro l pre x' a' W hl' ⟨r, hr⟩ ⟨⟨hp, bR1⟩, hB1⟩ ⟨Bx, hBx, bX, rfl⟩ hlt
    obtain ⟨q0, q1, q2, q3, _⟩ := cells4 bX
    have hpart := part_any x'.op x'.nm x'.nu x'.l x'.A x'.c W (HL.out.below hB1) x'.h.1 (x'.h.2.below hB1)
    have hfe : firstE ((pre ++ [x']).map TP.key) = partE x'.op x'.nm x'.nu x'.l.length := by
      rw [List.map_append, firstE_append, if_neg (by rw [hp]; simp)]
      show (if partE x'.op x'.nm x'.nu x'.l.length ≠ 0 then _ else (0 : Int)) = _
      split
      · rfl
      · rename_i h; simp at h; exact h.symm
    generalize partE x'.op x'.nm x'.nu x'.l.length = e0 at hpart hfe
    have HP := Aside0.mk hpart
    have HF := Aside0.mk hfe
    have HPP := Aside0.mk hp
    have BR := Aside0.mk bR1
    clear hpart hfe hp bX hr
    by_cases he : e0 = 0
    · subst he
      gi_wp2
      refine ⟨trivial, ?_⟩
      refine (CallsIn.inRound l (callsIn_wide.2 HP.out)).mono ?_
      rintro e w3 ⟨rfl, hb⟩
      have HB3 := Aside0.mk hb
      clear hb
      gi_wp2
      exact ⟨keepsFrom_below HB3.out (Nat.le_refl _) _, kpW_below HB3.out hB1.size, ⟨HF.out, blk_below (o := .cells #[.int .i64 0] 31 (0, 0)) BR.out HB3.out⟩, below_step hB1 HB3.out⟩
    · have he1 : (e0 = 0) = False := eq_false he
      have he2 : (e0 == 0) = false := by simpa using he
      have HE := Aside0.mk he
      clear he
      gi_wp2
      refine ⟨trivial, ?_⟩
      refine (CallsIn.inRound l (callsIn_wide.2 HP.out)).mono ?_
      rintro e w3 ⟨rfl, hb⟩
      have x1 : w3.heap[w.heap.size + 1]? = some (.cells #[.int .i64 0] 31 (0, 0)) := blk_below BR.out hb
      obtain ⟨s1, s2⟩ := cells1 x1
      have HB3 := Aside0.mk hb
      have X1 := Aside0.mk x1
      clear hb x1
      gi_wp2
      exact ⟨(keepsFrom_below HB3.out (Nat.le_refl _) _).trans ((KeepsOthers.setCell _ _ _).from _), ⟨⟨rfl, by rw [HF.out]; exact HE.out⟩, by rw [HF.out]; exact Boxed.set (t := 31) (v := .int .i64 0) _ X1.out⟩, below_set (below_step hB1 HB3.out) (by omega)⟩
  case done =>
    rintro D ys W hD hS ⟨⟨hp, bR1⟩, hB1⟩ hK
    have hfe : firstE ks = 0 := by rw [← hS]; exact hp
    have HF := Aside0.mk hfe
    have cR := bR1.cell
    have fR := bR1.frozen
    clear hS hp hfe
    gi_wp2
    have hK' := (KeepsOthers.setCell W ⟨w.heap.size + 1, 0, none⟩ (.int .i64 0)).same D _ hK rfl
    refine ⟨by simp, .inl ⟨_, _, rfl, run_takeDeferred hK', ?_⟩⟩
    have hc5 := cell_kept (bR1.set (.int .i64 0)).cell (grownBy_putObj' _ D (.deferred none)) (fun r e => by cases e; exact ⟨_, hK', rfl⟩)
    refine ⟨.int .i64 0, ?_, by rw [HF.out], (hB1.setCell (p := ⟨w.heap.size + 1, 0, none⟩) (by simp) _).trans (belowK_b (w := w) (Nat.le_refl _) _ D _ _ (by have := hB0.size; omega) hK' rfl rfl)⟩
    simp [results, Tryz.f129, go_sem, hc5]
  case stop =>
    rintro D c pre W hD hS ⟨⟨⟨rfl, hp⟩, bR1⟩, hB1⟩ hK
    have hfe : firstE ks = firstE (pre.map TP.key) := by
      obtain ⟨r, hr⟩ := hS
      rw [← hr, firstE_append, if_pos hp]
    have HF := Aside0.mk hfe
    clear hS hp hfe
    gi_wp2
    refine ⟨by simp, .inl ⟨_, _, rfl, run_takeDeferred hK, ?_⟩⟩
    have hc5 := cell_kept bR1.cell (grownBy_putObj' _ D (.deferred none)) (fun r e => by cases e; exact ⟨_, hK, rfl⟩)
    refine ⟨_, ?_, by rw [HF.out], hB1.trans (belowK_b (w := w) (Nat.le_refl _) W D _ _ (by have := hB0.size; omega) hK rfl rfl)⟩
    simp [results, Tryz.f129, go_sem, hc5]
theorem keysT_len : ∀ (d : Nat) (x : Tm), SizeOf.sizeOf x ≤ d → (keysT x).length = sizeT x
  | 0, x, h => by cases x; simp at h
  | d + 1, .mk op nm nu l, h => by
    have hl : ∀ l : List Tm, (∀ x ∈ l, SizeOf.sizeOf x ≤ d) → (keysL l).length = sizeTs l := by
      intro l
      induction l with
      | nil => intro _; rfl
      | cons x r ih => intro hh; simp only [keysL, sizeTs, List.length_append, keysT_len d x (hh x (by simp)), ih (fun y hy => hh y (by simp [hy]))]
    simp only [keysT, sizeT, List.length_cons]
    rw [hl l (fun x hx => by have := List.sizeOf_lt_of_mem hx; simp at h; omega)]; omega
theorem firstE_keys : ∀ (d : Nat) (x : Tm), SizeOf.sizeOf x ≤ d → firstE (keysT x) = firstT x
  | 0, x, h => by cases x; simp at h
  | d + 1, .mk op nm nu l, h => by
    have hl : ∀ l : List Tm, (∀ x ∈ l, SizeOf.sizeOf x ≤ d) → firstE (keysL l) = firstTs l := by
      intro l
      induction l with
      | nil => intro _; rfl
      | cons x r ih => intro hh; simp only [keysL, firstTs, firstE_append, firstE_keys d x (hh x (by simp)), ih (fun y hy => hh y (by simp [hy]))]
    simp only [keysT, firstT, firstE]
    rw [hl l (fun x hx => by have := List.sizeOf_lt_of_mem hx; simp at h; omega)]
theorem right_any (x : Tm) (A : Option Addr) (c : Nat) (w : World) (hok : okT x) (hL : NeedsLaid w) (hl : x.l.length ≤ c) (hC : TC w A x.l) :
    Calls Tryz.prog 129 #[.agg #[.int .i64 x.op, .string x.nm, .int .i64 x.nu, .slice A x.l.length c]] w fun e W' => e = .returned (.int .i64 (rightT x)) ∧ Below w.heap.size w W' := by
  unfold rightT
  rw [← keysT_len _ x (Nat.le_refl _), ← firstE_keys _ x (Nat.le_refl _)]
  by_cases hd : 64 < depT x
  · rw [if_pos hd]; exact callsIn_wide.1 (right_deep x A c w hok hL hl hC hd)
  · rw [if_neg hd]
    by_cases hs : 4096 < (keysT x).length
    · rw [if_pos hs]; exact callsIn_wide.1 (right_long x A c w hok hL hl hC hd hs)
    · rw [if_neg hs]; exact callsIn_wide.1 (right_walk x A c w hok hL hl hC hd hs)
end
/-- a term as an argument -/
theorem arg_term {F : Fz} {w : World} (hF : Fz.In F w) {t : Tm} (ht : okT t) {vals : Array Value} (h : RA F [encT t] vals.toList) :
    ∃ A c, vals = #[.agg #[.int .i64 t.op, .string t.nm, .int .i64 t.nu, .slice A t.l.length c]] ∧ t.l.length ≤ c ∧ TC w A t.l := by
  simp only [RA] at h
  obtain ⟨u, r, hv, h1, h2, rfl⟩ := h
  rw [encT_agg] at h2
  obtain ⟨cs, rfl⟩ := aggV_true h2.symm
  obtain ⟨op, nm, nu, ar⟩ := t
  rw [encT_mk] at h1
  simp only [RC, RL, Value.cells] at h1
  obtain ⟨u0, r0, e0, ⟨k0, _⟩, _, u1, r1, rfl, ⟨k1, _⟩, _, u2, r2, rfl, ⟨k2, _⟩, _, u3, r3, rfl, ⟨a, n, c, k3, hn, hc, hne⟩, _, rfl⟩ := h1
  simp only [List.cons.injEq, and_true] at k0 k1 k2 k3
  subst k0 k1 k2 k3
  rw [List.length_map] at hn
  subst hn
  have ecs : cs = #[.int .i64 op, .string nm, .int .i64 nu, .slice a ar.length c] := by
    have := congrArg List.toArray e0
    simpa using this
  subst ecs
  have ev : vals = #[.agg #[.int .i64 op, .string nm, .int .i64 nu, .slice a ar.length c]] := by
    have := congrArg List.toArray hv
    simpa using this
  refine ⟨a, c, ev, hc, ht.len, fun x hx => ht.arg hx, fun hl => ?_⟩
  obtain ⟨b, o, s, e, k⟩ := hne (by simpa [Tm.l] using hl)
  exact ⟨b, o, s, e, RE.mono hF.le k⟩
theorem sizeOK {A : Ann} : ExtOK Tryz.prog A 157 sizeQ := by
  refine ext_of fun cs r hr => ?_
  obtain ⟨t, ht, rfl, rfl⟩ := termQ_inv hr
  refine ⟨_, rfl, fun w0 w F vals _ _ hF ha => ?_⟩
  obtain ⟨a, c, rfl, h1, h2⟩ := arg_term hF ht ha
  refine (size_any t a c w h1 h2).mono ?_
  rintro e w' ⟨rfl, hb⟩
  exact ⟨_, rfl, hb, by rw [keysT_len _ t (Nat.le_refl _)]; exact RC_v rfl rfl, rfl⟩
theorem rightOK {A : Ann} (hA : ∀ w, A.laid w → NeedsLaid w) : ExtOK Tryz.prog A 129 rightQ := by
  refine ext_of fun cs r hr => ?_
  obtain ⟨t, ht, rfl, rfl⟩ := termQ_inv hr
  refine ⟨_, rfl, fun w0 w F vals hl hb hF ha => ?_⟩
  obtain ⟨a, c, rfl, h1, h2⟩ := arg_term hF ht ha
  refine (right_any t a c w ht ((hA _ hl).below hb) h1 h2).mono ?_
  rintro e w' ⟨rfl, hb⟩
  exact ⟨_, rfl, hb, RC_v rfl rfl, rfl⟩
end Go.Eng
