-- own work: an evaluator of the program's code, and what it answers
import Derived.Test.YtjmbdejejlcklaaDoorRows
import Derived.Test.YtjmbdejejlcklaaDoorTab
import Derived.Deep.DeepHandedRow
import Derived.Deep.DeepWitnessRowRef
import Derived.Lib.LaidTab
import Derived.Test.YtjmbdejejlcklaaDoorEngC
import Derived.KernelRfl
import Derived.Test.YtjmbdejejlcklaaDoorProg
/-
  A world for the witness: the settled one, the table of package term holding what its initialiser lays.
-/
set_option maxRecDepth 100000
namespace Go.Eng
open Go Go.Proofs
set_option linter.unusedVariables false
open Go.RowKit

noncomputable def laidWorld (os : Os) : World :=
  let w0 := World.holding Tryd.prog os ⟨#[], #[], []⟩
  { w0 with heap := w0.heap.modify 0 fun
    | .cells _ t frozen => .cells (needsL.map fun z => Value.int .i64 z).toArray t frozen
    | o => o }
theorem laid_met (os : Os) (args : Array Value) :
    laidMet Tryd.prog [("sequitur/term.needs", Go.Proofs.YtjmbdejejlcklaaDoor.Rows.laid_sequitur_term_needs)] ((laidWorld os).forCall (fun _ _ => 0) ⟨#[], args, []⟩).memory :=
  laidMet_of_run' 8 (by kernel_rfl) (by kernel_rfl)
theorem gNeedsType : (Tryd.prog.globals[0]?).map (·.type) = some 108 := by kernel_rfl
theorem cells9 : Tryd.prog.cellsOf 108 = 9 := by kernel_rfl
theorem cellsInt : Tryd.prog.cellsOf 3 = 1 := by kernel_rfl
theorem needs_data : (Go.Proofs.YtjmbdejejlcklaaDoor.Rows.laid_sequitur_term_needs : DataW Unit) = Lib.tabData .i64 needsL := by kernel_rfl
/-- What the rows' list gives. -/
theorem laid_table {W : World} (h : laidMetH Tryd.prog [("sequitur/term.needs", Go.Proofs.YtjmbdejejlcklaaDoor.Rows.laid_sequitur_term_needs)] W) : NeedsLaid W :=
  Lib.tabIs_of_head gNeeds gNeedsType Tryd.underlying108 Tryd.underlying3 cellsInt cells9 (by rw [← needs_data]; exact h)
end Go.Eng
/- The arguments of the laws as plain data. -/
set_option maxRecDepth 100000
set_option linter.unusedVariables false
set_option linter.unusedSimpArgs false
namespace Go.Eng
open Go Go.Proofs
theorem cz_int : Tryd.prog.cellsOf 3 = 1 := by kernel_rfl
theorem cz_int64 : Tryd.prog.cellsOf 2 = 1 := by kernel_rfl
theorem cz_str : Tryd.prog.cellsOf 9 = 1 := by kernel_rfl
theorem cz_strs : Tryd.prog.cellsOf 22 = 1 := by kernel_rfl
theorem cz_terms : Tryd.prog.cellsOf 27 = 1 := by kernel_rfl
theorem cz_claims : Tryd.prog.cellsOf 50 = 1 := by kernel_rfl
theorem cz_funs : Tryd.prog.cellsOf 23 = 1 := by kernel_rfl
theorem cz_term : Tryd.prog.cellsOf 29 = 4 := by kernel_rfl
theorem cz_claim : Tryd.prog.cellsOf 52 = 5 := by kernel_rfl
theorem cz_fun : Tryd.prog.cellsOf 63 = 3 := by kernel_rfl
theorem cz_sign : Tryd.prog.cellsOf 25 = 2 := by kernel_rfl
theorem cz_var : Tryd.prog.cellsOf 65 = 2 := by kernel_rfl
theorem ag_term : isAggT Tryd.prog 29 = true := by kernel_rfl
theorem ag_claim : isAggT Tryd.prog 52 = true := by kernel_rfl
theorem ag_fun : isAggT Tryd.prog 63 = true := by kernel_rfl
theorem ag_var : isAggT Tryd.prog 65 = true := by kernel_rfl
theorem ag_sign : isAggT Tryd.prog 25 = true := by kernel_rfl
theorem ag_str : isAggT Tryd.prog 9 = false := by kernel_rfl
theorem ag_strs : isAggT Tryd.prog 22 = false := by kernel_rfl
theorem ag_vars : isAggT Tryd.prog 26 = false := by kernel_rfl
theorem by_str : Tryd.prog.bytesOf 9 = 16 := by kernel_rfl
theorem by_fun : Tryd.prog.bytesOf 63 = 56 := by kernel_rfl
theorem by_var : Tryd.prog.bytesOf 65 = 32 := by kernel_rfl
theorem reach_eq : reachBytes = 140737488351232 := by decide
theorem dec_T : ∀ (n : Nat) (l : List C), HT Tryd.prog n 29 l → ∃ t, okT t ∧ C.agg l = encT t
  | n, l, h => by
    obtain ⟨m, rfl, hl, hf⟩ := HT_struct Tryd.underlying29 h
    rw [cz_term] at hl
    obtain ⟨a, b, c, d, rfl⟩ := len4 hl
    simp only [List.mem_cons, forall_eq_or_imp, List.not_mem_nil, false_implies, implies_true, and_true, cz_int, cz_int64, cz_str, cz_terms, List.drop_zero, List.drop_succ_cons, List.take_succ_cons, List.take_zero] at hf
    obtain ⟨h0, h1, h2, h3⟩ := hf
    obtain ⟨op, e0, k0⟩ := HT_int Tryd.underlying3 h0
    obtain ⟨nm, e1, k1, _⟩ := HT_string Tryd.underlying9 h1
    obtain ⟨nu, e2, k2⟩ := HT_int Tryd.underlying2 h2
    obtain ⟨m, xs, rfl, e3, k3, _, hx⟩ := HT_slice Tryd.underlying27 h3
    obtain ⟨ts, rfl, hts⟩ := list_of (e := encT) (Q := okT) (xs := xs) (fun x hxx => by
      obtain ⟨ys, q1, rfl⟩ := hx x hxx
      rw [ag_term]
      exact dec_T m ys q1)
    cases e0; cases e1; cases e2; cases e3
    exact ⟨.mk op nm nu ts, .mk _ (by simpa [Tm.l] using k3) k0 k1 k2 hts, by rw [encT_mk]; rfl⟩
theorem dec_Ts {n : Nat} {l : List C} (h : HT Tryd.prog n 27 l) : ∃ ts : List Tm, l = [.sl (ts.map encT)] ∧ ts.length ≤ maxLen ∧ ∀ t ∈ ts, okT t := by
  obtain ⟨m, xs, rfl, rfl, k3, _, hx⟩ := HT_slice Tryd.underlying27 h
  obtain ⟨ts, rfl, hts⟩ := list_of (e := encT) (Q := okT) (xs := xs) (fun x hxx => by
      obtain ⟨ys, q1, rfl⟩ := hx x hxx
      rw [ag_term]
      exact dec_T m ys q1)
  exact ⟨ts, rfl, by simpa using k3, hts⟩
theorem dec_C : ∀ (n : Nat) (l : List C), HT Tryd.prog n 52 l → ∃ t, okC t ∧ C.agg l = encC t
  | n, l, h => by
    obtain ⟨m, rfl, hl, hf⟩ := HT_struct Tryd.underlying52 h
    rw [cz_claim] at hl
    obtain ⟨a, b, c, d, e, rfl⟩ := len5 hl
    simp only [List.mem_cons, forall_eq_or_imp, List.not_mem_nil, false_implies, implies_true, and_true, cz_int, cz_str, cz_terms, cz_claims, List.drop_zero, List.drop_succ_cons, List.take_succ_cons, List.take_zero] at hf
    obtain ⟨h0, h1, h2, h3, h4⟩ := hf
    obtain ⟨op, e0, k0⟩ := HT_int Tryd.underlying3 h0
    obtain ⟨nm, e1, k1, _⟩ := HT_string Tryd.underlying9 h1
    obtain ⟨so, e2, k2, _⟩ := HT_string Tryd.underlying9 h2
    obtain ⟨ts, e3, k3, hts⟩ := dec_Ts h3
    obtain ⟨m, xs, rfl, e4, k4, _, hx⟩ := HT_slice Tryd.underlying50 h4
    obtain ⟨ss, rfl, hss⟩ := list_of (e := encC) (Q := okC) (xs := xs) (fun x hxx => by
      obtain ⟨ys, q1, rfl⟩ := hx x hxx
      rw [ag_claim]
      exact dec_C m ys q1)
    cases e0; cases e1; cases e2; cases e3; cases e4
    exact ⟨.mk op nm so ts ss, .mk _ k3 (by simpa [Cl.ss] using k4) k0 k1 k2 hts hss, by rw [encC_mk]; rfl⟩
theorem dec_strs {n : Nat} {l : List C} (h : HT Tryd.prog n 22 l) : ∃ ss : List ByteArray, l = [.sl (ss.map cS)] ∧ ss.length ≤ 8796093022208 ∧ ∀ s ∈ ss, s.size ≤ maxLen := by
  obtain ⟨m, xs, rfl, rfl, k3, k4, hx⟩ := HT_slice Tryd.underlying22 h
  obtain ⟨ss, rfl, hss⟩ := list_of (e := cS) (Q := fun s => s.size ≤ maxLen) (xs := xs) (fun x hxx => by
      obtain ⟨ys, q1, rfl⟩ := hx x hxx
      obtain ⟨s, rfl, q2, _⟩ := HT_string Tryd.underlying9 q1
      rw [ag_str]
      exact ⟨s, q2, rfl⟩)
  rw [by_str, reach_eq, List.length_map] at k4
  exact ⟨ss, rfl, by omega, hss⟩
/-- a signature that lies in a machine's memory -/
structure bigS (s : Sg) : Prop where
  ok : okS s
  sorts : s.sorts.length ≤ 8796093022208
  funs : s.funs.length ≤ 8796093022208
  args : ∀ f ∈ s.funs, f.args.length ≤ 8796093022208
theorem dec_F {n : Nat} {l : List C} (h : HT Tryd.prog n 63 l) : ∃ f, (okF f ∧ f.args.length ≤ 8796093022208) ∧ C.agg l = encF f := by
  obtain ⟨m, rfl, hl, hf⟩ := HT_struct Tryd.underlying63 h
  rw [cz_fun] at hl
  obtain ⟨a, b, c, rfl⟩ := len3 hl
  simp only [List.mem_cons, forall_eq_or_imp, List.not_mem_nil, false_implies, implies_true, and_true, cz_str, cz_strs, List.drop_zero, List.drop_succ_cons, List.take_succ_cons, List.take_zero] at hf
  obtain ⟨h0, h1, h2⟩ := hf
  obtain ⟨nm, e0, k0, _⟩ := HT_string Tryd.underlying9 h0
  obtain ⟨ss, e1, k1, hss⟩ := dec_strs h1
  obtain ⟨so, e2, k2, _⟩ := HT_string Tryd.underlying9 h2
  cases e0; cases e1; cases e2
  exact ⟨⟨nm, ss, so⟩, ⟨⟨by rw [maxLen_eq]; show ss.length ≤ _; omega, k0, k2, hss⟩, k1⟩, rfl⟩
theorem dec_S {n : Nat} {l : List C} (h : HT Tryd.prog n 25 l) : ∃ s, bigS s ∧ C.agg l = encS s := by
  obtain ⟨m, rfl, hl, hf⟩ := HT_struct Tryd.underlying25 h
  rw [cz_sign] at hl
  obtain ⟨a, b, rfl⟩ := len2 hl
  simp only [List.mem_cons, forall_eq_or_imp, List.not_mem_nil, false_implies, implies_true, and_true, cz_strs, cz_funs, List.drop_zero, List.drop_succ_cons, List.take_succ_cons, List.take_zero] at hf
  obtain ⟨h0, h1⟩ := hf
  obtain ⟨ss, e0, k0, hss⟩ := dec_strs h0
  obtain ⟨m, xs, rfl, e1, k3, k4, hx⟩ := HT_slice Tryd.underlying23 h1
  obtain ⟨fs, rfl, hfs⟩ := list_of (e := encF) (Q := fun f => okF f ∧ f.args.length ≤ 8796093022208) (xs := xs) (fun x hxx => by
      obtain ⟨ys, q1, rfl⟩ := hx x hxx
      rw [ag_fun]
      exact dec_F q1)
  cases e0; cases e1
  rw [by_fun, reach_eq, List.length_map] at k4
  exact ⟨⟨ss, fs⟩, ⟨⟨by rw [maxLen_eq]; show ss.length ≤ _; omega, by rw [maxLen_eq]; show fs.length ≤ _; omega, hss, fun f hf => (hfs f hf).1⟩, k0, by show fs.length ≤ _; omega, fun f hf => (hfs f hf).2⟩, rfl⟩
theorem dec_V {n : Nat} {l : List C} (h : HT Tryd.prog n 65 l) : ∃ v, okV v ∧ C.agg l = encV v := by
  obtain ⟨m, rfl, hl, hf⟩ := HT_struct Tryd.underlying65 h
  rw [cz_var] at hl
  obtain ⟨a, b, rfl⟩ := len2 hl
  simp only [List.mem_cons, forall_eq_or_imp, List.not_mem_nil, false_implies, implies_true, and_true, cz_str, List.drop_zero, List.drop_succ_cons, List.take_succ_cons, List.take_zero] at hf
  obtain ⟨h0, h1⟩ := hf
  obtain ⟨nm, e0, k0, _⟩ := HT_string Tryd.underlying9 h0
  obtain ⟨so, e1, k1, _⟩ := HT_string Tryd.underlying9 h1
  cases e0; cases e1
  exact ⟨⟨nm, so⟩, ⟨k0, k1⟩, rfl⟩
theorem dec_Vs {n : Nat} {l : List C} (h : HT Tryd.prog n 26 l) : ∃ vs : List Va, l = [.sl (vs.map encV)] ∧ vs.length ≤ 8796093022208 ∧ ∀ v ∈ vs, okV v := by
  obtain ⟨m, xs, rfl, rfl, k3, k4, hx⟩ := HT_slice Tryd.underlying26 h
  obtain ⟨vs, rfl, hvs⟩ := list_of (e := encV) (Q := okV) (xs := xs) (fun x hxx => by
      obtain ⟨ys, q1, rfl⟩ := hx x hxx
      rw [ag_var]
      exact dec_V q1)
  rw [by_var, reach_eq, List.length_map] at k4
  exact ⟨vs, rfl, by omega, hvs⟩
/-- the types that a law of these reads -/
def lawTypes : List Nat := [3, 2, 9, 22, 29, 27, 52, 50, 63, 23, 25, 65, 26, 5, 4]
theorem lawClosed : closedT Tryd.prog lawTypes = true := by kernel_rfl
end Go.Eng
