/-
  Claims that are the same up to the names of binders have the same truth value (guards inside the law): the law WorldAlike answers true for every input; nothing is asked of the input.
-/
import Derived.Test.YtdmoipccmbimhaaGreatDoorRows
import Derived.Test.YtdmoipccmbimhaaGreatDoorCards
import Derived.Test.YtdmoipccmbimhaaGreatDoorTie
import Derived.Test.YtdmoipccmbimhaaGreatDoorA4
import Derived.Test.YtdmoipccmbimhaaGreatDoorDecZ
import Derived.Test.YtdmoipccmbimhaaGreatDoorKitA
import Derived.WalkKit
import Derived.ProofKit
import Derived.OpenShut
import Derived.ShutString
import Derived.ChangeOld
import Derived.Below
import Derived.SizedLaws
import Derived.WideShapes
import Derived.Deep.DeepHandedRow
import Derived.Deep.DeepWitnessRowRef
import Derived.Lib.LaidTab
namespace Go.Proofs.YtdmoipccmbimhaaGreatDoor.worldAlike
open Go.ChangeShapes Go.WideShapes Go.ChangeAt Go.RowKit Go.Eng
set_option linter.unusedVariables false
set_option linter.unusedSimpArgs false
theorem own : ownKnob Tryz.prog.godebug = none := by kernel_rfl
theorem laidOut : laidOutB Tryz.prog = true := by kernel_rfl
set_option maxRecDepth 100000 in
theorem contract (H : Type) (enc : TypeId × Value → H) (W : World) (base : Nat) (args : Array Value) (ds gs : List (DataW H)) (before : List MemPlace)
    (hval : ∀ (j : Nat) t v, Tryz.f5.params[j]? = some t → args[j]? = some v → Value.okWide Tryz.prog W .any base t v)
    (hW : DataW.Whole enc Tryz.prog Tryz.f5.params.toList Rows.worldAlikeSpec.vars false W args.toList ds gs before)
    (hS : (DataW.weightsEach Tryz.prog (Tryz.f5.params.toList ++ (OpenSpec.ofChange Rows.worldAlikeSpec).bare.plain.varTypes Tryz.prog) (ds ++ gs)).all (· ≤ reachBytes) = true) (hL : laidMetH Tryz.prog Rows.worldAlikeRow.laid W) :
    Calls Tryz.prog 5 args W fun e W' => ∃ v, e = .returned v ∧ Rows.worldAlikeSpec.post enc Tryz.prog Tryz.f5 false true false false W args v W' := by
  have hW' := hW
  obtain ⟨p, q, hA0, hV, rfl, hfz, hnd⟩ := hW
  have hA : DataW.TrodAll enc Tryz.prog W 0 (fun _ => true) true Tryz.f5.params.toList args.toList ds p := hA0
  rw [Tryz.params5] at hA hval
  obtain ⟨v0, vs0, d0, ds0, p0, q0, hargs, rfl, rfl, h0, r0⟩ := trodAll_cons hA
  obtain ⟨v1, vs1, d1, ds1, p1, q1, rfl, rfl, rfl, h1, r1⟩ := trodAll_cons r0
  obtain ⟨v2, vs2, d2, ds2, p2, q2, rfl, rfl, rfl, h2, r2⟩ := trodAll_cons r1
  obtain ⟨v3, vs3, d3, ds3, p3, q3, rfl, rfl, rfl, h3, r3⟩ := trodAll_cons r2
  obtain ⟨v4, vs4, d4, ds4, p4, q4, rfl, rfl, rfl, h4, r4⟩ := trodAll_cons r3
  obtain ⟨v5, vs5, d5, ds5, p5, q5, rfl, rfl, rfl, h5, r5⟩ := trodAll_cons r4
  obtain ⟨rfl, rfl, rfl⟩ := trodAll_nil r5
  obtain rfl : args = #[v0, v1, v2, v3, v4, v5] := by cases args; simp_all
  obtain ⟨rfl, rfl⟩ := trodVars_none hV
  have hwt : ∀ n ∈ DataW.weightsEach Tryz.prog (Tryz.f5.params.toList ++ (OpenSpec.ofChange Rows.worldAlikeSpec).bare.plain.varTypes Tryz.prog) ([d0, d1, d2, d3, d4, d5] ++ []), n ≤ reachBytes := fun n hn => by simpa using List.all_eq_true.1 hS n hn
  rw [Tryz.params5] at hwt
  have lt0 : ∀ x ∈ p0, x.block < W.heap.size := by obtain ⟨m, hm⟩ := h0; exact DataW.trod_lt m _ _ _ hm
  obtain ⟨n0, l0, H0, R0⟩ := param_open lawClosedZ (by rfl) (hval 0 25 v0 rfl rfl) (fun n hn => hwt n (DataW.weights_mem_each (j := 0) (t := 25) (d := d0) rfl rfl n hn)) h0
  obtain ⟨x0, k0, e0⟩ := dec_S H0
  rw [ag_sign] at R0
  have Q0 : RC (memF W) (encS x0) v0.cells.toList ∧ (encS x0).isAgg = aggV v0 := by rw [← e0]; exact R0
  have lt1 : ∀ x ∈ p1, x.block < W.heap.size := by obtain ⟨m, hm⟩ := h1; exact DataW.trod_lt m _ _ _ hm
  obtain ⟨n1, l1, H1, R1⟩ := param_open lawClosedZ (by rfl) (hval 1 29 v1 rfl rfl) (fun n hn => hwt n (DataW.weights_mem_each (j := 1) (t := 29) (d := d1) rfl rfl n hn)) h1
  obtain ⟨x1, k1, e1⟩ := dec_W H1
  rw [ag_world] at R1
  have Q1 : RC (memF W) (encW x1) v1.cells.toList ∧ (encW x1).isAgg = aggV v1 := by rw [← e1]; exact R1
  have lt2 : ∀ x ∈ p2, x.block < W.heap.size := by obtain ⟨m, hm⟩ := h2; exact DataW.trod_lt m _ _ _ hm
  obtain ⟨n2, l2, H2, R2⟩ := param_open lawClosedZ (by rfl) (hval 2 37 v2 rfl rfl) (fun n hn => hwt n (DataW.weights_mem_each (j := 2) (t := 37) (d := d2) rfl rfl n hn)) h2
  obtain ⟨x2, e2, k2, k2'⟩ := dec_Vs H2
  rw [ag_vars] at R2
  have Q2 : RC (memF W) (.sl (x2.map encV)) v2.cells.toList ∧ (C.sl (x2.map encV)).isAgg = aggV v2 := by rw [e2] at R2; exact R2
  have lt3 : ∀ x ∈ p3, x.block < W.heap.size := by obtain ⟨m, hm⟩ := h3; exact DataW.trod_lt m _ _ _ hm
  obtain ⟨n3, l3, H3, R3⟩ := param_open lawClosedZ (by rfl) (hval 3 38 v3 rfl rfl) (fun n hn => hwt n (DataW.weights_mem_each (j := 3) (t := 38) (d := d3) rfl rfl n hn)) h3
  obtain ⟨x3, e3, k3, k3'⟩ := dec_Bs H3
  rw [ag_binds] at R3
  have Q3 : RC (memF W) (.sl (x3.map encB)) v3.cells.toList ∧ (C.sl (x3.map encB)).isAgg = aggV v3 := by rw [e3] at R3; exact R3
  have lt4 : ∀ x ∈ p4, x.block < W.heap.size := by obtain ⟨m, hm⟩ := h4; exact DataW.trod_lt m _ _ _ hm
  obtain ⟨n4, l4, H4, R4⟩ := param_open lawClosedZ (by rfl) (hval 4 42 v4 rfl rfl) (fun n hn => hwt n (DataW.weights_mem_each (j := 4) (t := 42) (d := d4) rfl rfl n hn)) h4
  obtain ⟨x4, k4, e4⟩ := dec_C _ _ H4
  rw [ag_claim] at R4
  have Q4 : RC (memF W) (encC x4) v4.cells.toList ∧ (encC x4).isAgg = aggV v4 := by rw [← e4]; exact R4
  have lt5 : ∀ x ∈ p5, x.block < W.heap.size := by obtain ⟨m, hm⟩ := h5; exact DataW.trod_lt m _ _ _ hm
  obtain ⟨n5, l5, H5, R5⟩ := param_open lawClosedZ (by rfl) (hval 5 22 v5 rfl rfl) (fun n hn => hwt n (DataW.weights_mem_each (j := 5) (t := 22) (d := d5) rfl rfl n hn)) h5
  obtain ⟨x5, e5, k5, k5'⟩ := dec_strs H5
  rw [ag_strs] at R5
  have Q5 : RC (memF W) (.sl (x5.map cS)) v5.cells.toList ∧ (C.sl (x5.map cS)).isAgg = aggV v5 := by rw [e5] at R5; exact R5
  clear hA0
  have hN : LaidA W := laid_table hL
  refine (law_calls progAnZ (f := 5) (cs := [encS x0, encW x1, .sl (x2.map encV), .sl (x3.map encB), encC x4, .sl (x5.map cS)]) hN (glob_ok rfl hN.1) (RA_cons Q0 (RA_cons Q1 (RA_cons Q2 (RA_cons Q3 (RA_cons Q4 (RA_cons Q5 RA_nil)))))) (alike_ev x0 x1 x2 x3 x4 x5 k0 k1 k2 k3 k3' k4 k5 k5' 0 [] (Nat.le_refl _))).mono fun e W' ⟨he, bel⟩ => ?_
  subst he
  exact ⟨_, rfl, _, _, _, [], _, [], hW', trodAll_mk1 (shut_bool Tryz.underlying4 _), (trodAll_cons_mk (Below.trod laidOut (by kernel_rfl) (of_decide_eq_true (by kernel_rfl)) h0 bel lt0) (trodAll_cons_mk (Below.trod laidOut (by kernel_rfl) (of_decide_eq_true (by kernel_rfl)) h1 bel lt1) (trodAll_cons_mk (Below.trod laidOut (by kernel_rfl) (of_decide_eq_true (by kernel_rfl)) h2 bel lt2) (trodAll_cons_mk (Below.trod laidOut (by kernel_rfl) (of_decide_eq_true (by kernel_rfl)) h3 bel lt3) (trodAll_cons_mk (Below.trod laidOut (by kernel_rfl) (of_decide_eq_true (by kernel_rfl)) h4 bel lt4) (trodAll_cons_mk (Below.trod laidOut (by kernel_rfl) (of_decide_eq_true (by kernel_rfl)) h5 bel lt5) trodAll_mk0)))))), rfl, bel.frame _, fun h => by cases h⟩
theorem reads (os : Os) {H : Type} (enc : TypeId × Value → H) : ∃ places, DataW.whole enc Tryz.prog ((laidWorld os).forCall (fun _ _ => 0) ⟨#[], #[.agg #[.slice none 0 0, .slice none 0 0], .agg #[.slice none 0 0, .slice none 0 0], .slice none 0 0, .slice none 0 0, .agg #[.int .i64 0, .string ByteArray.empty, .string ByteArray.empty, .slice none 0 0, .slice none 0 0], .slice none 0 0], []⟩).memory Tryz.f5.params.toList Rows.worldAlikeSpec.vars false (#[.agg #[.slice none 0 0, .slice none 0 0], .agg #[.slice none 0 0, .slice none 0 0], .slice none 0 0, .slice none 0 0, .agg #[.int .i64 0, .string ByteArray.empty, .string ByteArray.empty, .slice none 0 0, .slice none 0 0], .slice none 0 0] : Array Value).toList 8 = some ([.agg [.nil, .nil], .agg [.nil, .nil], .nil, .nil, .agg [.lit (.int .i64 0), .lit (.string []), .lit (.string []), .nil, .nil], .nil], [], places) :=
  ⟨[], by kernel_rfl⟩
set_option maxRecDepth 100000 in
theorem lifted (os : Os) (started : os.Started) (H : Type) (enc : TypeId × Value → H) (F : Stop.Interp) :
    ReturnsInHanded {} Tryz.checked os 5 .any ((OpenSpec.ofChange Rows.worldAlikeSpec).preRow enc Tryz.prog Tryz.f5 Rows.worldAlikeRow.domain false Rows.worldAlikeRow.laid) (((OpenSpec.ofChange Rows.worldAlikeSpec).at F).post enc Tryz.prog Tryz.f5 false true false false) := by
  obtain ⟨places, hx⟩ := reads os enc
  refine returnsInHanded_of_row (C := Tryz.checked) (s := OpenSpec.ofChange Rows.worldAlikeSpec) own started (by kernel_rfl) Tryz.func5
    (witness_row_atRef (enc := enc) (C := Tryz.checked) false (laidWorld os) #[.agg #[.slice none 0 0, .slice none 0 0], .agg #[.slice none 0 0, .slice none 0 0], .slice none 0 0, .slice none 0 0, .agg #[.int .i64 0, .string ByteArray.empty, .string ByteArray.empty, .slice none 0 0, .slice none 0 0], .slice none 0 0] rfl (by kernel_rfl) (by kernel_rfl) (by kernel_rfl)
      (OpenSpec.preRow_of_cond 8 hx (by kernel_rfl) (fun k hk => by cases hk) (by kernel_rfl) (laid_met os _))) ?_
  intro W base args ds gs before hval hW _ _ hS hL _ _
  exact contract H enc W base args ds gs before hval hW hS hL
theorem said : Rows.WorldAlikeSaid :=
  OpenClaim.holds_of_cond 5 Tryz.f5 rfl rfl rfl rfl rfl rfl rfl ⟨rfl, rfl, rfl, rfl, rfl⟩ rfl rfl rfl rfl rfl (by kernel_rfl) Tryz.func5 (by kernel_rfl)
    (of_decide_eq_true (by kernel_rfl)) (by unfold Func.isWrapper; first | (rw [if_pos (by decide +kernel)]; kernel_rfl) | (rw [if_neg (by decide +kernel)]; exact ⟨rfl, rfl⟩))
    (fun os started H enc _ F => by rw [OpenClaim.pre_eq_preRow]; exact lifted os started H enc F)
theorem plain (f : FuncId) (fn : Func) (hf : Tryz.pinned.checked.prog.funcNamed "sequitur/sequiturlaw16.WorldAlike" = some f) (hfn : Tryz.pinned.checked.prog.funcs[f]? = some fn) :
    false = Tryz.pinned.checked.prog.looks [] ∧ ∀ (j : Nat) t, fn.params[j]? = some t → Tryz.pinned.checked.prog.wantsStandIn t = false := by
  obtain rfl : f = 5 := Option.some.inj ((show Tryz.prog.funcNamed "sequitur/sequiturlaw16.WorldAlike" = some 5 by kernel_rfl).symm.trans hf) |>.symm
  obtain rfl : fn = Tryz.f5 := (Option.some.inj (Tryz.func5.symm.trans hfn)).symm
  refine ⟨by kernel_rfl, fun j t ht => ?_⟩
  rw [Tryz.params5] at ht
  have hm : t ∈ #[25, 29, 37, 38, 42, 22] := Array.mem_of_getElem? ht
  have hall : (([25, 29, 37, 38, 42, 22] : List Nat).all fun t => !(Tryz.prog.wantsStandIn t)) = true := by kernel_rfl
  have h := List.all_eq_true.1 hall t (by simpa using hm)
  exact (by simpa using h : Tryz.prog.wantsStandIn t = false)
theorem card : Rows.WorldAlikeCardSaid :=
  Claim7.holds_tied_plain_at .later [] _ _ _ _ said (fun _ h => by cases h) (by kernel_rfl) (fun _ h => by cases h) worldAlike_row_tie rfl ⟨rfl, rfl⟩ (by kernel_rfl) rfl plain (by kernel_rfl)
end Go.Proofs.YtdmoipccmbimhaaGreatDoor.worldAlike
namespace Go.Proofs.YtdmoipccmbimhaaGreatDoor
/-- The statement, under a short name, for the claim. -/
theorem worldAlike_holds : Rows.WorldAlikeCardSaid := worldAlike.card
#print axioms worldAlike_holds
end Go.Proofs.YtdmoipccmbimhaaGreatDoor
