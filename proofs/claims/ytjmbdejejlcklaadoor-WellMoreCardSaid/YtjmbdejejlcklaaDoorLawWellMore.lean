/-
  More variables behind change nothing, and a way that is told leads to a part: the law WellMore answers true for every input; nothing is asked of the input.
-/
import Derived.Test.YtjmbdejejlcklaaDoorRows
import Derived.Test.YtjmbdejejlcklaaDoorCards
import Derived.Test.YtjmbdejejlcklaaDoorTie
import Derived.Test.YtjmbdejejlcklaaDoorR11
import Derived.Test.YtjmbdejejlcklaaDoorProgAn
import Derived.Test.YtjmbdejejlcklaaDoorKitA
import Derived.WalkKit
import Derived.ProofKit
import Derived.OpenShut
import Derived.ShutString
import Derived.ChangeOld
import Derived.Below
import Derived.SizedLaws
import Derived.WideShapes
import Derived.Deep.DeepHandedRow
import Derived.Deep.DeepWitnessRowRef
import Derived.Lib.LaidTab
namespace Go.Proofs.YtjmbdejejlcklaaDoor.wellMore
open Go.ChangeShapes Go.WideShapes Go.ChangeAt Go.RowKit Go.Eng
set_option linter.unusedVariables false
set_option linter.unusedSimpArgs false
theorem own : ownKnob Tryd.prog.godebug = none := by kernel_rfl
theorem laidOut : laidOutB Tryd.prog = true := by kernel_rfl
set_option maxRecDepth 100000 in
theorem contract (H : Type) (enc : TypeId × Value → H) (W : World) (base : Nat) (args : Array Value) (ds gs : List (DataW H)) (before : List MemPlace)
    (hval : ∀ (j : Nat) t v, Tryd.f7.params[j]? = some t → args[j]? = some v → Value.okWide Tryd.prog W .any base t v)
    (hW : DataW.Whole enc Tryd.prog Tryd.f7.params.toList Rows.wellMoreSpec.vars false W args.toList ds gs before)
    (hS : (DataW.weightsEach Tryd.prog (Tryd.f7.params.toList ++ (OpenSpec.ofChange Rows.wellMoreSpec).bare.plain.varTypes Tryd.prog) (ds ++ gs)).all (· ≤ reachBytes) = true) (hL : laidMetH Tryd.prog Rows.wellMoreRow.laid W) :
    Calls Tryd.prog 7 args W fun e W' => ∃ v, e = .returned v ∧ Rows.wellMoreSpec.post enc Tryd.prog Tryd.f7 false true false false W args v W' := by
  have hW' := hW
  obtain ⟨p, q, hA0, hV, rfl, hfz, hnd⟩ := hW
  have hA : DataW.TrodAll enc Tryd.prog W 0 (fun _ => true) true Tryd.f7.params.toList args.toList ds p := hA0
  rw [Tryd.params7] at hA hval
  obtain ⟨v0, vs0, d0, ds0, p0, q0, hargs, rfl, rfl, h0, r0⟩ := trodAll_cons hA
  obtain ⟨v1, vs1, d1, ds1, p1, q1, rfl, rfl, rfl, h1, r1⟩ := trodAll_cons r0
  obtain ⟨v2, vs2, d2, ds2, p2, q2, rfl, rfl, rfl, h2, r2⟩ := trodAll_cons r1
  obtain ⟨v3, vs3, d3, ds3, p3, q3, rfl, rfl, rfl, h3, r3⟩ := trodAll_cons r2
  obtain ⟨rfl, rfl, rfl⟩ := trodAll_nil r3
  obtain rfl : args = #[v0, v1, v2, v3] := by cases args; simp_all
  obtain ⟨rfl, rfl⟩ := trodVars_none hV
  have hwt : ∀ n ∈ DataW.weightsEach Tryd.prog (Tryd.f7.params.toList ++ (OpenSpec.ofChange Rows.wellMoreSpec).bare.plain.varTypes Tryd.prog) ([d0, d1, d2, d3] ++ []), n ≤ reachBytes := fun n hn => by simpa using List.all_eq_true.1 hS n hn
  rw [Tryd.params7] at hwt
  have lt0 : ∀ x ∈ p0, x.block < W.heap.size := by obtain ⟨m, hm⟩ := h0; exact DataW.trod_lt m _ _ _ hm
  obtain ⟨n0, l0, H0, R0⟩ := param_open lawClosed (by rfl) (hval 0 25 v0 rfl rfl) (fun n hn => hwt n (DataW.weights_mem_each (j := 0) (t := 25) (d := d0) rfl rfl n hn)) h0
  obtain ⟨x0, k0, e0⟩ := dec_S H0
  rw [ag_sign] at R0
  have Q0 : RC (memF W) (encS x0) v0.cells.toList ∧ (encS x0).isAgg = aggV v0 := by rw [← e0]; exact R0
  have lt1 : ∀ x ∈ p1, x.block < W.heap.size := by obtain ⟨m, hm⟩ := h1; exact DataW.trod_lt m _ _ _ hm
  obtain ⟨n1, l1, H1, R1⟩ := param_open lawClosed (by rfl) (hval 1 26 v1 rfl rfl) (fun n hn => hwt n (DataW.weights_mem_each (j := 1) (t := 26) (d := d1) rfl rfl n hn)) h1
  obtain ⟨x1, e1, k1, k1'⟩ := dec_Vs H1
  rw [ag_vars] at R1
  have Q1 : RC (memF W) (.sl (x1.map encV)) v1.cells.toList ∧ (C.sl (x1.map encV)).isAgg = aggV v1 := by rw [e1] at R1; exact R1
  have lt2 : ∀ x ∈ p2, x.block < W.heap.size := by obtain ⟨m, hm⟩ := h2; exact DataW.trod_lt m _ _ _ hm
  obtain ⟨n2, l2, H2, R2⟩ := param_open lawClosed (by rfl) (hval 2 26 v2 rfl rfl) (fun n hn => hwt n (DataW.weights_mem_each (j := 2) (t := 26) (d := d2) rfl rfl n hn)) h2
  obtain ⟨x2, e2, k2, k2'⟩ := dec_Vs H2
  rw [ag_vars] at R2
  have Q2 : RC (memF W) (.sl (x2.map encV)) v2.cells.toList ∧ (C.sl (x2.map encV)).isAgg = aggV v2 := by rw [e2] at R2; exact R2
  have lt3 : ∀ x ∈ p3, x.block < W.heap.size := by obtain ⟨m, hm⟩ := h3; exact DataW.trod_lt m _ _ _ hm
  obtain ⟨n3, l3, H3, R3⟩ := param_open lawClosed (by rfl) (hval 3 52 v3 rfl rfl) (fun n hn => hwt n (DataW.weights_mem_each (j := 3) (t := 52) (d := d3) rfl rfl n hn)) h3
  obtain ⟨x3, k3, e3⟩ := dec_C _ _ H3
  rw [ag_claim] at R3
  have Q3 : RC (memF W) (encC x3) v3.cells.toList ∧ (encC x3).isAgg = aggV v3 := by rw [← e3]; exact R3
  clear hA0
  have hN : NeedsLaid W := laid_table hL
  refine (law_calls progAn (f := 7) (cs := [encS x0, .sl (x1.map encV), .sl (x2.map encV), encC x3]) hN (glob_ok rfl hN) (RA_cons Q0 (RA_cons Q1 (RA_cons Q2 (RA_cons Q3 RA_nil)))) (more_ev x0 x1 x2 x3 k0 k1 k2 k3 0 [] (Nat.le_refl _))).mono fun e W' ⟨he, bel⟩ => ?_
  subst he
  exact ⟨_, rfl, _, _, _, [], _, [], hW', trodAll_mk1 (shut_bool Tryd.underlying4 _), (trodAll_cons_mk (Below.trod laidOut (by kernel_rfl) (of_decide_eq_true (by kernel_rfl)) h0 bel lt0) (trodAll_cons_mk (Below.trod laidOut (by kernel_rfl) (of_decide_eq_true (by kernel_rfl)) h1 bel lt1) (trodAll_cons_mk (Below.trod laidOut (by kernel_rfl) (of_decide_eq_true (by kernel_rfl)) h2 bel lt2) (trodAll_cons_mk (Below.trod laidOut (by kernel_rfl) (of_decide_eq_true (by kernel_rfl)) h3 bel lt3) trodAll_mk0)))), rfl, bel.frame _, fun h => by cases h⟩
theorem reads (os : Os) {H : Type} (enc : TypeId × Value → H) : ∃ places, DataW.whole enc Tryd.prog ((laidWorld os).forCall (fun _ _ => 0) ⟨#[], #[.agg #[.slice none 0 0, .slice none 0 0], .slice none 0 0, .slice none 0 0, .agg #[.int .i64 0, .string ByteArray.empty, .string ByteArray.empty, .slice none 0 0, .slice none 0 0]], []⟩).memory Tryd.f7.params.toList Rows.wellMoreSpec.vars false (#[.agg #[.slice none 0 0, .slice none 0 0], .slice none 0 0, .slice none 0 0, .agg #[.int .i64 0, .string ByteArray.empty, .string ByteArray.empty, .slice none 0 0, .slice none 0 0]] : Array Value).toList 8 = some ([.agg [.nil, .nil], .nil, .nil, .agg [.lit (.int .i64 0), .lit (.string []), .lit (.string []), .nil, .nil]], [], places) :=
  ⟨[], by kernel_rfl⟩
set_option maxRecDepth 100000 in
theorem lifted (os : Os) (started : os.Started) (H : Type) (enc : TypeId × Value → H) (F : Stop.Interp) :
    ReturnsInHanded {} Tryd.checked os 7 .any ((OpenSpec.ofChange Rows.wellMoreSpec).preRow enc Tryd.prog Tryd.f7 Rows.wellMoreRow.domain false Rows.wellMoreRow.laid) (((OpenSpec.ofChange Rows.wellMoreSpec).at F).post enc Tryd.prog Tryd.f7 false true false false) := by
  obtain ⟨places, hx⟩ := reads os enc
  refine returnsInHanded_of_row (C := Tryd.checked) (s := OpenSpec.ofChange Rows.wellMoreSpec) own started (by kernel_rfl) Tryd.func7
    (witness_row_atRef (enc := enc) (C := Tryd.checked) false (laidWorld os) #[.agg #[.slice none 0 0, .slice none 0 0], .slice none 0 0, .slice none 0 0, .agg #[.int .i64 0, .string ByteArray.empty, .string ByteArray.empty, .slice none 0 0, .slice none 0 0]] rfl (by kernel_rfl) (by kernel_rfl) (by kernel_rfl)
      (OpenSpec.preRow_of_cond 8 hx (by kernel_rfl) (fun k hk => by cases hk) (by kernel_rfl) (laid_met os _))) ?_
  intro W base args ds gs before hval hW _ _ hS hL _ _
  exact contract H enc W base args ds gs before hval hW hS hL
theorem said : Rows.WellMoreSaid :=
  OpenClaim.holds_of_cond 7 Tryd.f7 rfl rfl rfl rfl rfl rfl rfl ⟨rfl, rfl, rfl, rfl, rfl⟩ rfl rfl rfl rfl rfl (by kernel_rfl) Tryd.func7 (by kernel_rfl)
    (of_decide_eq_true (by kernel_rfl)) (by unfold Func.isWrapper; first | (rw [if_pos (by decide +kernel)]; kernel_rfl) | (rw [if_neg (by decide +kernel)]; exact ⟨rfl, rfl⟩))
    (fun os started H enc _ F => by rw [OpenClaim.pre_eq_preRow]; exact lifted os started H enc F)
theorem plain (f : FuncId) (fn : Func) (hf : Tryd.pinned.checked.prog.funcNamed "sequitur/sequiturlaw13.WellMore" = some f) (hfn : Tryd.pinned.checked.prog.funcs[f]? = some fn) :
    false = Tryd.pinned.checked.prog.looks [] ∧ ∀ (j : Nat) t, fn.params[j]? = some t → Tryd.pinned.checked.prog.wantsStandIn t = false := by
  obtain rfl : f = 7 := Option.some.inj ((show Tryd.prog.funcNamed "sequitur/sequiturlaw13.WellMore" = some 7 by kernel_rfl).symm.trans hf) |>.symm
  obtain rfl : fn = Tryd.f7 := (Option.some.inj (Tryd.func7.symm.trans hfn)).symm
  refine ⟨by kernel_rfl, fun j t ht => ?_⟩
  rw [Tryd.params7] at ht
  have hm : t ∈ #[25, 26, 26, 52] := Array.mem_of_getElem? ht
  have hall : (([25, 26, 26, 52] : List Nat).all fun t => !(Tryd.prog.wantsStandIn t)) = true := by kernel_rfl
  have h := List.all_eq_true.1 hall t (by simpa using hm)
  exact (by simpa using h : Tryd.prog.wantsStandIn t = false)
theorem card : Rows.WellMoreCardSaid :=
  Claim7.holds_tied_plain_at .later [] _ _ _ _ said (fun _ h => by cases h) (by kernel_rfl) (fun _ h => by cases h) wellMore_row_tie rfl ⟨rfl, rfl⟩ (by kernel_rfl) rfl plain (by kernel_rfl)
end Go.Proofs.YtjmbdejejlcklaaDoor.wellMore
namespace Go.Proofs.YtjmbdejejlcklaaDoor
/-- The statement, under a short name, for the claim. -/
theorem wellMore_holds : Rows.WellMoreCardSaid := wellMore.card
#print axioms wellMore_holds
end Go.Proofs.YtjmbdejejlcklaaDoor
