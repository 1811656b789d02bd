-- own work: an evaluator of the program's code, and what it answers
import Derived.Test.YtdmoipccmbimhaaGreatDoorRows
import Derived.Test.YtdmoipccmbimhaaGreatDoorTab
import Derived.Deep.DeepHandedRow
import Derived.Deep.DeepWitnessRowRef
import Derived.Lib.LaidTab
import Derived.Test.YtdmoipccmbimhaaGreatDoorEngC
import Derived.KernelRfl
import Derived.Test.YtdmoipccmbimhaaGreatDoorProg
/-
  A world for the witness: the settled one, the table of package term and the library's two tables of blanks holding what their initialisers lay.
-/
set_option maxRecDepth 100000
namespace Go.Eng
open Go Go.Proofs
set_option linter.unusedVariables false
open Go.RowKit

noncomputable def laidWorld (os : Os) : World :=
  let N := (World.settled Tryz.prog os).heap.size
  let w0 := World.holding Tryz.prog os ⟨#[
    .cells (#[9, 13, 1, 32, 133, 101, 160, 5760, 5600, 8192, 8202, 1, 8232, 8233, 1, 8239, 8287, 48, 12288, 12288, 1].map (Value.int .u16)) 236,
    .cells #[.slice (some ⟨N, 0, none⟩) 7 7, .slice none 0 0, .int .i64 2] 233], #[], []⟩
  let put (h : Array Obj) (g : Nat) (cs : Array Value) : Array Obj := h.modify g fun
    | .cells _ t frozen => .cells cs t frozen
    | o => o
  let h1 := put w0.heap 1 (Lib.asciiSpaceTab.map fun z => Value.int .u8 z).toArray
  let h2 := put h1 2 #[.pointer (some ⟨N + 1, 0, none⟩)]
  let h3 := put h2 0 (needsL.map fun z => Value.int .i64 z).toArray
  { w0 with heap := h3 }
theorem laid_met (os : Os) (args : Array Value) :
    laidMet Tryz.prog [("sequitur/term.needs", Go.Proofs.YtdmoipccmbimhaaGreatDoor.Rows.laid_sequitur_term_needs), ("unicode.White_Space", Go.Proofs.YtdmoipccmbimhaaGreatDoor.Rows.laid_unicode_White_Space), ("strings.asciiSpace", Go.Proofs.YtdmoipccmbimhaaGreatDoor.Rows.laid_strings_asciiSpace)] ((laidWorld os).forCall (fun _ _ => 0) ⟨#[], args, []⟩).memory :=
  laidMet_of_run' 8 (by kernel_rfl) (by kernel_rfl)
theorem gNeedsType : (Tryz.prog.globals[0]?).map (·.type) = some 215 := by kernel_rfl
theorem cells9 : Tryz.prog.cellsOf 215 = 9 := by kernel_rfl
theorem cellsInt : Tryz.prog.cellsOf 3 = 1 := by kernel_rfl
theorem needs_data : (Go.Proofs.YtdmoipccmbimhaaGreatDoor.Rows.laid_sequitur_term_needs : DataW Unit) = Lib.tabData .i64 needsL := by kernel_rfl
theorem gAscii : Tryz.prog.globalNamed "strings.asciiSpace" = some 1 := by kernel_rfl
theorem gAsciiType : (Tryz.prog.globals[1]?).map (·.type) = some 222 := by kernel_rfl
theorem cells256 : Tryz.prog.cellsOf 222 = 256 := by kernel_rfl
theorem cellsU8 : Tryz.prog.cellsOf 5 = 1 := by kernel_rfl
theorem ascii_data : (Go.Proofs.YtdmoipccmbimhaaGreatDoor.Rows.laid_strings_asciiSpace : DataW Unit) = Lib.tabData .u8 Lib.asciiSpaceTab := by kernel_rfl
/-- What the rows' list gives. -/
theorem laid_table {W : World} (h : laidMetH Tryz.prog [("sequitur/term.needs", Go.Proofs.YtdmoipccmbimhaaGreatDoor.Rows.laid_sequitur_term_needs), ("unicode.White_Space", Go.Proofs.YtdmoipccmbimhaaGreatDoor.Rows.laid_unicode_White_Space), ("strings.asciiSpace", Go.Proofs.YtdmoipccmbimhaaGreatDoor.Rows.laid_strings_asciiSpace)] W) : LaidA W := by
  obtain ⟨ps, ⟨g1, t1, cs1, fuel1, p1, q1, hg1, ht1, hvar1, hd1, ⟨_, _, _, _, _, _, _, _, _, _, ⟨g', t', cs, fuel, p, q, hg', ht', hvar, hd, _, _⟩, _⟩, _⟩, _⟩ := (show laidMet Tryz.prog [("sequitur/term.needs", Go.Proofs.YtdmoipccmbimhaaGreatDoor.Rows.laid_sequitur_term_needs), ("unicode.White_Space", Go.Proofs.YtdmoipccmbimhaaGreatDoor.Rows.laid_unicode_White_Space), ("strings.asciiSpace", Go.Proofs.YtdmoipccmbimhaaGreatDoor.Rows.laid_strings_asciiSpace)] W from h)
  obtain rfl := Option.some.inj (gNeeds.symm.trans hg1)
  obtain rfl := Option.some.inj (gNeedsType.symm.trans ht1)
  obtain rfl := Option.some.inj (gAscii.symm.trans hg')
  obtain rfl := Option.some.inj (gAsciiType.symm.trans ht')
  refine ⟨?_, ?_⟩
  · unfold NeedsLaid Lib.TabIs
    rw [needs_data] at hd1
    rw [hvar1, ← Lib.cells_of_tab Tryz.underlying215 Tryz.underlying3 cellsInt cells9 hd1]
  · unfold LaidW Lib.TabIs
    rw [ascii_data] at hd
    rw [hvar, ← Lib.cells_of_tab Tryz.underlying222 Tryz.underlying5 cellsU8 cells256 hd]
end Go.Eng
/- The arguments of the laws as plain data. -/
set_option maxRecDepth 100000
set_option linter.unusedVariables false
set_option linter.unusedSimpArgs false
namespace Go.Eng
open Go Go.Proofs
theorem cz_int : Tryz.prog.cellsOf 3 = 1 := by kernel_rfl
theorem cz_int64 : Tryz.prog.cellsOf 2 = 1 := by kernel_rfl
theorem cz_str : Tryz.prog.cellsOf 9 = 1 := by kernel_rfl
theorem cz_strs : Tryz.prog.cellsOf 22 = 1 := by kernel_rfl
theorem cz_terms : Tryz.prog.cellsOf 39 = 1 := by kernel_rfl
theorem cz_claims : Tryz.prog.cellsOf 40 = 1 := by kernel_rfl
theorem cz_funs : Tryz.prog.cellsOf 23 = 1 := by kernel_rfl
theorem cz_term : Tryz.prog.cellsOf 57 = 4 := by kernel_rfl
theorem cz_claim : Tryz.prog.cellsOf 42 = 5 := by kernel_rfl
theorem cz_fun : Tryz.prog.cellsOf 103 = 3 := by kernel_rfl
theorem cz_sign : Tryz.prog.cellsOf 25 = 2 := by kernel_rfl
theorem cz_var : Tryz.prog.cellsOf 125 = 2 := by kernel_rfl
theorem ag_term : isAggT Tryz.prog 57 = true := by kernel_rfl
theorem ag_claim : isAggT Tryz.prog 42 = true := by kernel_rfl
theorem ag_fun : isAggT Tryz.prog 103 = true := by kernel_rfl
theorem ag_var : isAggT Tryz.prog 125 = true := by kernel_rfl
theorem ag_sign : isAggT Tryz.prog 25 = true := by kernel_rfl
theorem ag_str : isAggT Tryz.prog 9 = false := by kernel_rfl
theorem ag_strs : isAggT Tryz.prog 22 = false := by kernel_rfl
theorem ag_vars : isAggT Tryz.prog 37 = false := by kernel_rfl
theorem by_str : Tryz.prog.bytesOf 9 = 16 := by kernel_rfl
theorem by_fun : Tryz.prog.bytesOf 103 = 56 := by kernel_rfl
theorem by_var : Tryz.prog.bytesOf 125 = 32 := by kernel_rfl
theorem reach_eq : reachBytes = 140737488351232 := by decide
theorem dec_T : ∀ (n : Nat) (l : List C), HT Tryz.prog n 57 l → ∃ t, okT t ∧ C.agg l = encT t
  | n, l, h => by
    obtain ⟨m, rfl, hl, hf⟩ := HT_struct Tryz.underlying57 h
    rw [cz_term] at hl
    obtain ⟨a, b, c, d, rfl⟩ := len4 hl
    simp only [List.mem_cons, forall_eq_or_imp, List.not_mem_nil, false_implies, implies_true, and_true, cz_int, cz_int64, cz_str, cz_terms, List.drop_zero, List.drop_succ_cons, List.take_succ_cons, List.take_zero] at hf
    obtain ⟨h0, h1, h2, h3⟩ := hf
    obtain ⟨op, e0, k0⟩ := HT_int Tryz.underlying3 h0
    obtain ⟨nm, e1, k1, _⟩ := HT_string Tryz.underlying9 h1
    obtain ⟨nu, e2, k2⟩ := HT_int Tryz.underlying2 h2
    obtain ⟨m, xs, rfl, e3, k3, _, hx⟩ := HT_slice Tryz.underlying39 h3
    obtain ⟨ts, rfl, hts⟩ := list_of (e := encT) (Q := okT) (xs := xs) (fun x hxx => by
      obtain ⟨ys, q1, rfl⟩ := hx x hxx
      rw [ag_term]
      exact dec_T m ys q1)
    cases e0; cases e1; cases e2; cases e3
    exact ⟨.mk op nm nu ts, .mk _ (by simpa [Tm.l] using k3) k0 k1 k2 hts, by rw [encT_mk]; rfl⟩
theorem dec_Ts {n : Nat} {l : List C} (h : HT Tryz.prog n 39 l) : ∃ ts : List Tm, l = [.sl (ts.map encT)] ∧ ts.length ≤ maxLen ∧ ∀ t ∈ ts, okT t := by
  obtain ⟨m, xs, rfl, rfl, k3, _, hx⟩ := HT_slice Tryz.underlying39 h
  obtain ⟨ts, rfl, hts⟩ := list_of (e := encT) (Q := okT) (xs := xs) (fun x hxx => by
      obtain ⟨ys, q1, rfl⟩ := hx x hxx
      rw [ag_term]
      exact dec_T m ys q1)
  exact ⟨ts, rfl, by simpa using k3, hts⟩
theorem dec_C : ∀ (n : Nat) (l : List C), HT Tryz.prog n 42 l → ∃ t, okC t ∧ C.agg l = encC t
  | n, l, h => by
    obtain ⟨m, rfl, hl, hf⟩ := HT_struct Tryz.underlying42 h
    rw [cz_claim] at hl
    obtain ⟨a, b, c, d, e, rfl⟩ := len5 hl
    simp only [List.mem_cons, forall_eq_or_imp, List.not_mem_nil, false_implies, implies_true, and_true, cz_int, cz_str, cz_terms, cz_claims, List.drop_zero, List.drop_succ_cons, List.take_succ_cons, List.take_zero] at hf
    obtain ⟨h0, h1, h2, h3, h4⟩ := hf
    obtain ⟨op, e0, k0⟩ := HT_int Tryz.underlying3 h0
    obtain ⟨nm, e1, k1, _⟩ := HT_string Tryz.underlying9 h1
    obtain ⟨so, e2, k2, _⟩ := HT_string Tryz.underlying9 h2
    obtain ⟨ts, e3, k3, hts⟩ := dec_Ts h3
    obtain ⟨m, xs, rfl, e4, k4, _, hx⟩ := HT_slice Tryz.underlying40 h4
    obtain ⟨ss, rfl, hss⟩ := list_of (e := encC) (Q := okC) (xs := xs) (fun x hxx => by
      obtain ⟨ys, q1, rfl⟩ := hx x hxx
      rw [ag_claim]
      exact dec_C m ys q1)
    cases e0; cases e1; cases e2; cases e3; cases e4
    exact ⟨.mk op nm so ts ss, .mk _ k3 (by simpa [Cl.ss] using k4) k0 k1 k2 hts hss, by rw [encC_mk]; rfl⟩
theorem dec_strs {n : Nat} {l : List C} (h : HT Tryz.prog n 22 l) : ∃ ss : List ByteArray, l = [.sl (ss.map cS)] ∧ ss.length ≤ 8796093022208 ∧ ∀ s ∈ ss, s.size ≤ maxLen := by
  obtain ⟨m, xs, rfl, rfl, k3, k4, hx⟩ := HT_slice Tryz.underlying22 h
  obtain ⟨ss, rfl, hss⟩ := list_of (e := cS) (Q := fun s => s.size ≤ maxLen) (xs := xs) (fun x hxx => by
      obtain ⟨ys, q1, rfl⟩ := hx x hxx
      obtain ⟨s, rfl, q2, _⟩ := HT_string Tryz.underlying9 q1
      rw [ag_str]
      exact ⟨s, q2, rfl⟩)
  rw [by_str, reach_eq, List.length_map] at k4
  exact ⟨ss, rfl, by omega, hss⟩
/-- a signature that lies in a machine's memory -/
structure bigS (s : Sg) : Prop where
  ok : okS s
  sorts : s.sorts.length ≤ 8796093022208
  funs : s.funs.length ≤ 8796093022208
  args : ∀ f ∈ s.funs, f.args.length ≤ 8796093022208
theorem dec_F {n : Nat} {l : List C} (h : HT Tryz.prog n 103 l) : ∃ f, (okF f ∧ f.args.length ≤ 8796093022208) ∧ C.agg l = encF f := by
  obtain ⟨m, rfl, hl, hf⟩ := HT_struct Tryz.underlying103 h
  rw [cz_fun] at hl
  obtain ⟨a, b, c, rfl⟩ := len3 hl
  simp only [List.mem_cons, forall_eq_or_imp, List.not_mem_nil, false_implies, implies_true, and_true, cz_str, cz_strs, List.drop_zero, List.drop_succ_cons, List.take_succ_cons, List.take_zero] at hf
  obtain ⟨h0, h1, h2⟩ := hf
  obtain ⟨nm, e0, k0, _⟩ := HT_string Tryz.underlying9 h0
  obtain ⟨ss, e1, k1, hss⟩ := dec_strs h1
  obtain ⟨so, e2, k2, _⟩ := HT_string Tryz.underlying9 h2
  cases e0; cases e1; cases e2
  exact ⟨⟨nm, ss, so⟩, ⟨⟨by rw [maxLen_eq]; show ss.length ≤ _; omega, k0, k2, hss⟩, k1⟩, rfl⟩
theorem dec_S {n : Nat} {l : List C} (h : HT Tryz.prog n 25 l) : ∃ s, bigS s ∧ C.agg l = encS s := by
  obtain ⟨m, rfl, hl, hf⟩ := HT_struct Tryz.underlying25 h
  rw [cz_sign] at hl
  obtain ⟨a, b, rfl⟩ := len2 hl
  simp only [List.mem_cons, forall_eq_or_imp, List.not_mem_nil, false_implies, implies_true, and_true, cz_strs, cz_funs, List.drop_zero, List.drop_succ_cons, List.take_succ_cons, List.take_zero] at hf
  obtain ⟨h0, h1⟩ := hf
  obtain ⟨ss, e0, k0, hss⟩ := dec_strs h0
  obtain ⟨m, xs, rfl, e1, k3, k4, hx⟩ := HT_slice Tryz.underlying23 h1
  obtain ⟨fs, rfl, hfs⟩ := list_of (e := encF) (Q := fun f => okF f ∧ f.args.length ≤ 8796093022208) (xs := xs) (fun x hxx => by
      obtain ⟨ys, q1, rfl⟩ := hx x hxx
      rw [ag_fun]
      exact dec_F q1)
  cases e0; cases e1
  rw [by_fun, reach_eq, List.length_map] at k4
  exact ⟨⟨ss, fs⟩, ⟨⟨by rw [maxLen_eq]; show ss.length ≤ _; omega, by rw [maxLen_eq]; show fs.length ≤ _; omega, hss, fun f hf => (hfs f hf).1⟩, k0, by show fs.length ≤ _; omega, fun f hf => (hfs f hf).2⟩, rfl⟩
theorem dec_V {n : Nat} {l : List C} (h : HT Tryz.prog n 125 l) : ∃ v, okV v ∧ C.agg l = encV v := by
  obtain ⟨m, rfl, hl, hf⟩ := HT_struct Tryz.underlying125 h
  rw [cz_var] at hl
  obtain ⟨a, b, rfl⟩ := len2 hl
  simp only [List.mem_cons, forall_eq_or_imp, List.not_mem_nil, false_implies, implies_true, and_true, cz_str, List.drop_zero, List.drop_succ_cons, List.take_succ_cons, List.take_zero] at hf
  obtain ⟨h0, h1⟩ := hf
  obtain ⟨nm, e0, k0, _⟩ := HT_string Tryz.underlying9 h0
  obtain ⟨so, e1, k1, _⟩ := HT_string Tryz.underlying9 h1
  cases e0; cases e1
  exact ⟨⟨nm, so⟩, ⟨k0, k1⟩, rfl⟩
theorem dec_Vs {n : Nat} {l : List C} (h : HT Tryz.prog n 37 l) : ∃ vs : List Va, l = [.sl (vs.map encV)] ∧ vs.length ≤ 8796093022208 ∧ ∀ v ∈ vs, okV v := by
  obtain ⟨m, xs, rfl, rfl, k3, k4, hx⟩ := HT_slice Tryz.underlying37 h
  obtain ⟨vs, rfl, hvs⟩ := list_of (e := encV) (Q := okV) (xs := xs) (fun x hxx => by
      obtain ⟨ys, q1, rfl⟩ := hx x hxx
      rw [ag_var]
      exact dec_V q1)
  rw [by_var, reach_eq, List.length_map] at k4
  exact ⟨vs, rfl, by omega, hvs⟩
/-- the types that a law of these reads -/
def lawTypes : List Nat := [3, 2, 9, 22, 57, 39, 42, 40, 103, 23, 25, 125, 37, 5, 4]
theorem lawClosed : closedT Tryz.prog lawTypes = true := by kernel_rfl
end Go.Eng
