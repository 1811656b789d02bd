-- own work: an evaluator of the program's code, and what it answers
import Derived.Test.YtdmoipccmbimhaaGreatDoorKitA
import Derived.Test.YtdmoipccmbimhaaGreatDoorZ6
/- A world as plain data. -/
set_option maxRecDepth 100000
set_option linter.unusedVariables false
set_option linter.unusedSimpArgs false
namespace Go.Eng
open Go Go.Proofs
theorem cz_ints : Tryz.prog.cellsOf 26 = 1 := by kernel_rfl
theorem cz_lits : Tryz.prog.cellsOf 27 = 1 := by kernel_rfl
theorem cz_world : Tryz.prog.cellsOf 29 = 2 := by kernel_rfl
theorem cz_bind : Tryz.prog.cellsOf 75 = 2 := by kernel_rfl
theorem ag_int : isAggT Tryz.prog 3 = false := by kernel_rfl
theorem ag_ints : isAggT Tryz.prog 26 = false := by kernel_rfl
theorem ag_world : isAggT Tryz.prog 29 = true := by kernel_rfl
theorem ag_bind : isAggT Tryz.prog 75 = true := by kernel_rfl
theorem ag_binds : isAggT Tryz.prog 38 = false := by kernel_rfl
theorem by_int : Tryz.prog.bytesOf 3 = 8 := by kernel_rfl
theorem by_ints : Tryz.prog.bytesOf 26 = 24 := by kernel_rfl
theorem by_bind : Tryz.prog.bytesOf 75 = 24 := by kernel_rfl
def wfI (n : Int) : Prop := (Lit.int .i64 n).wf = true
theorem dec_Is {n : Nat} {l : List C} (h : HT Tryz.prog n 26 l) : ∃ ss : List Int, l = [.sl (ss.map cI)] ∧ ss.length ≤ 17592186044416 ∧ ∀ s ∈ ss, wfI s := by
  obtain ⟨m, xs, rfl, rfl, k3, k4, hx⟩ := HT_slice Tryz.underlying26 h
  obtain ⟨ss, rfl, hss⟩ := list_of (e := cI) (Q := wfI) (xs := xs) (fun x hxx => by
      obtain ⟨ys, q1, rfl⟩ := hx x hxx
      obtain ⟨s, rfl, q2⟩ := HT_int Tryz.underlying3 q1
      rw [ag_int]
      exact ⟨s, q2, rfl⟩)
  rw [by_int, reach_eq, List.length_map] at k4
  exact ⟨ss, rfl, by omega, hss⟩
/-- a world that lies in a machine's memory -/
structure bigW (w : Wd) : Prop where
  ok : okW w
  sizes : w.sizes.length ≤ 17592186044416
  tables : w.tables.length ≤ 17592186044416
  each : ∀ t ∈ w.tables, t.length ≤ 17592186044416 ∧ ∀ x ∈ t, wfI x
  wf : ∀ x ∈ w.sizes, wfI x
theorem dec_W {n : Nat} {l : List C} (h : HT Tryz.prog n 29 l) : ∃ w, bigW w ∧ C.agg l = encW w := by
  obtain ⟨m, rfl, hl, hf⟩ := HT_struct Tryz.underlying29 h
  rw [cz_world] at hl
  obtain ⟨a, b, rfl⟩ := len2 hl
  simp only [List.mem_cons, forall_eq_or_imp, List.not_mem_nil, false_implies, implies_true, and_true, cz_ints, cz_lits, List.drop_zero, List.drop_succ_cons, List.take_succ_cons, List.take_zero] at hf
  obtain ⟨h0, h1⟩ := hf
  obtain ⟨ss, e0, k0, hss⟩ := dec_Is h0
  obtain ⟨m, xs, rfl, e1, k3, k4, hx⟩ := HT_slice Tryz.underlying27 h1
  obtain ⟨ts, rfl, hts⟩ := list_of (e := encL) (Q := fun t => t.length ≤ 17592186044416 ∧ ∀ x ∈ t, wfI x) (xs := xs) (fun x hxx => by
      obtain ⟨ys, q1, rfl⟩ := hx x hxx
      obtain ⟨l, rfl, q2, q3⟩ := dec_Is q1
      rw [ag_ints]
      exact ⟨l, ⟨q2, q3⟩, rfl⟩)
  cases e0; cases e1
  rw [by_ints, reach_eq, List.length_map] at k4
  exact ⟨⟨ss, ts⟩, ⟨⟨by rw [maxLen_eq]; show ss.length ≤ _; omega, by rw [maxLen_eq]; show ts.length ≤ _; omega, fun x hx => by have := (hts x hx).1; rw [maxLen_eq]; omega⟩, k0, by show ts.length ≤ _; omega, hts, hss⟩, rfl⟩
theorem dec_B {n : Nat} {l : List C} (h : HT Tryz.prog n 75 l) : ∃ b : Bd, (b.nm.size ≤ maxLen ∧ wfI b.val) ∧ C.agg l = encB b := by
  obtain ⟨m, rfl, hl, hf⟩ := HT_struct Tryz.underlying75 h
  rw [cz_bind] at hl
  obtain ⟨a, b, rfl⟩ := len2 hl
  simp only [List.mem_cons, forall_eq_or_imp, List.not_mem_nil, false_implies, implies_true, and_true, cz_str, cz_int64, List.drop_zero, List.drop_succ_cons, List.take_succ_cons, List.take_zero] at hf
  obtain ⟨h0, h1⟩ := hf
  obtain ⟨nm, e0, k0, _⟩ := HT_string Tryz.underlying9 h0
  obtain ⟨nu, e1, k1⟩ := HT_int Tryz.underlying2 h1
  cases e0; cases e1
  exact ⟨⟨nm, nu⟩, ⟨k0, k1⟩, rfl⟩
theorem dec_Bs {n : Nat} {l : List C} (h : HT Tryz.prog n 38 l) : ∃ vs : List Bd, l = [.sl (vs.map encB)] ∧ vs.length ≤ 8796093022208 ∧ ∀ b ∈ vs, b.nm.size ≤ maxLen ∧ wfI b.val := by
  obtain ⟨m, xs, rfl, rfl, k3, k4, hx⟩ := HT_slice Tryz.underlying38 h
  obtain ⟨vs, rfl, hvs⟩ := list_of (e := encB) (Q := fun b : Bd => b.nm.size ≤ maxLen ∧ wfI b.val) (xs := xs) (fun x hxx => by
      obtain ⟨ys, q1, rfl⟩ := hx x hxx
      rw [ag_bind]
      exact dec_B q1)
  rw [by_bind, reach_eq, List.length_map] at k4
  exact ⟨vs, rfl, by omega, hvs⟩
def lawTypesZ : List Nat := lawTypes ++ [26, 27, 29, 75, 38]
theorem lawClosedZ : closedT Tryz.prog lawTypesZ = true := by kernel_rfl
end Go.Eng
