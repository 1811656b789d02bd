-- own work: an evaluator of the program's code, and what it answers
import Derived.Test.YtapjanalameofaaDoorEngC
import Derived.KernelRfl
import Derived.Test.YtapjanalameofaaDoorProg
/- The arguments of the laws as plain data. -/
set_option maxRecDepth 100000
set_option linter.unusedVariables false
set_option linter.unusedSimpArgs false
namespace Go.Eng
open Go Go.Proofs
theorem cz_int : Tryd.prog.cellsOf 3 = 1 := by kernel_rfl
theorem cz_int64 : Tryd.prog.cellsOf 2 = 1 := by kernel_rfl
theorem cz_str : Tryd.prog.cellsOf 9 = 1 := by kernel_rfl
theorem cz_strs : Tryd.prog.cellsOf 37 = 1 := by kernel_rfl
theorem cz_terms : Tryd.prog.cellsOf 22 = 1 := by kernel_rfl
theorem cz_claims : Tryd.prog.cellsOf 31 = 1 := by kernel_rfl
theorem cz_term : Tryd.prog.cellsOf 24 = 4 := by kernel_rfl
theorem cz_claim : Tryd.prog.cellsOf 33 = 5 := by kernel_rfl
theorem cz_fun : Tryd.prog.cellsOf 55 = 3 := by kernel_rfl
theorem ag_term : isAggT Tryd.prog 24 = true := by kernel_rfl
theorem ag_claim : isAggT Tryd.prog 33 = true := by kernel_rfl
theorem ag_fun : isAggT Tryd.prog 55 = true := by kernel_rfl
theorem ag_str : isAggT Tryd.prog 9 = false := by kernel_rfl
theorem ag_strs : isAggT Tryd.prog 37 = false := by kernel_rfl
theorem by_str : Tryd.prog.bytesOf 9 = 16 := by kernel_rfl
theorem reach_eq : reachBytes = 140737488351232 := by decide
theorem dec_T : ∀ (n : Nat) (l : List C), HT Tryd.prog n 24 l → ∃ t, okT t ∧ C.agg l = encT t
  | n, l, h => by
    obtain ⟨m, rfl, hl, hf⟩ := HT_struct Tryd.underlying24 h
    rw [cz_term] at hl
    obtain ⟨a, b, c, d, rfl⟩ := len4 hl
    simp only [List.mem_cons, forall_eq_or_imp, List.not_mem_nil, false_implies, implies_true, and_true, cz_int, cz_int64, cz_str, cz_terms, List.drop_zero, List.drop_succ_cons, List.take_succ_cons, List.take_zero] at hf
    obtain ⟨h0, h1, h2, h3⟩ := hf
    obtain ⟨op, e0, k0⟩ := HT_int Tryd.underlying3 h0
    obtain ⟨nm, e1, k1, _⟩ := HT_string Tryd.underlying9 h1
    obtain ⟨nu, e2, k2⟩ := HT_int Tryd.underlying2 h2
    obtain ⟨m, xs, rfl, e3, k3, _, hx⟩ := HT_slice Tryd.underlying22 h3
    obtain ⟨ts, rfl, hts⟩ := list_of (e := encT) (Q := okT) (xs := xs) (fun x hxx => by
      obtain ⟨ys, q1, rfl⟩ := hx x hxx
      rw [ag_term]
      exact dec_T m ys q1)
    cases e0; cases e1; cases e2; cases e3
    exact ⟨.mk op nm nu ts, .mk _ (by simpa [Tm.l] using k3) k0 k1 k2 hts, by rw [encT_mk]; rfl⟩
theorem dec_Ts {n : Nat} {l : List C} (h : HT Tryd.prog n 22 l) : ∃ ts : List Tm, l = [.sl (ts.map encT)] ∧ ts.length ≤ maxLen ∧ ∀ t ∈ ts, okT t := by
  obtain ⟨m, xs, rfl, rfl, k3, _, hx⟩ := HT_slice Tryd.underlying22 h
  obtain ⟨ts, rfl, hts⟩ := list_of (e := encT) (Q := okT) (xs := xs) (fun x hxx => by
      obtain ⟨ys, q1, rfl⟩ := hx x hxx
      rw [ag_term]
      exact dec_T m ys q1)
  exact ⟨ts, rfl, by simpa using k3, hts⟩
theorem dec_C : ∀ (n : Nat) (l : List C), HT Tryd.prog n 33 l → ∃ t, okC t ∧ C.agg l = encC t
  | n, l, h => by
    obtain ⟨m, rfl, hl, hf⟩ := HT_struct Tryd.underlying33 h
    rw [cz_claim] at hl
    obtain ⟨a, b, c, d, e, rfl⟩ := len5 hl
    simp only [List.mem_cons, forall_eq_or_imp, List.not_mem_nil, false_implies, implies_true, and_true, cz_int, cz_str, cz_terms, cz_claims, List.drop_zero, List.drop_succ_cons, List.take_succ_cons, List.take_zero] at hf
    obtain ⟨h0, h1, h2, h3, h4⟩ := hf
    obtain ⟨op, e0, k0⟩ := HT_int Tryd.underlying3 h0
    obtain ⟨nm, e1, k1, _⟩ := HT_string Tryd.underlying9 h1
    obtain ⟨so, e2, k2, _⟩ := HT_string Tryd.underlying9 h2
    obtain ⟨ts, e3, k3, hts⟩ := dec_Ts h3
    obtain ⟨m, xs, rfl, e4, k4, _, hx⟩ := HT_slice Tryd.underlying31 h4
    obtain ⟨ss, rfl, hss⟩ := list_of (e := encC) (Q := okC) (xs := xs) (fun x hxx => by
      obtain ⟨ys, q1, rfl⟩ := hx x hxx
      rw [ag_claim]
      exact dec_C m ys q1)
    cases e0; cases e1; cases e2; cases e3; cases e4
    exact ⟨.mk op nm so ts ss, .mk _ k3 (by simpa [Cl.ss] using k4) k0 k1 k2 hts hss, by rw [encC_mk]; rfl⟩
theorem dec_strs {n : Nat} {l : List C} (h : HT Tryd.prog n 37 l) : ∃ ss : List ByteArray, l = [.sl (ss.map cS)] ∧ ss.length ≤ 8796093022208 ∧ ∀ s ∈ ss, s.size ≤ maxLen := by
  obtain ⟨m, xs, rfl, rfl, k3, k4, hx⟩ := HT_slice Tryd.underlying37 h
  obtain ⟨ss, rfl, hss⟩ := list_of (e := cS) (Q := fun s => s.size ≤ maxLen) (xs := xs) (fun x hxx => by
      obtain ⟨ys, q1, rfl⟩ := hx x hxx
      obtain ⟨s, rfl, q2, _⟩ := HT_string Tryd.underlying9 q1
      rw [ag_str]
      exact ⟨s, q2, rfl⟩)
  rw [by_str, reach_eq, List.length_map] at k4
  exact ⟨ss, rfl, by omega, hss⟩
theorem dec_F {n : Nat} {l : List C} (h : HT Tryd.prog n 55 l) : ∃ f, (okF f ∧ f.args.length ≤ 8796093022208) ∧ C.agg l = encF f := by
  obtain ⟨m, rfl, hl, hf⟩ := HT_struct Tryd.underlying55 h
  rw [cz_fun] at hl
  obtain ⟨a, b, c, rfl⟩ := len3 hl
  simp only [List.mem_cons, forall_eq_or_imp, List.not_mem_nil, false_implies, implies_true, and_true, cz_str, cz_strs, List.drop_zero, List.drop_succ_cons, List.take_succ_cons, List.take_zero] at hf
  obtain ⟨h0, h1, h2⟩ := hf
  obtain ⟨nm, e0, k0, _⟩ := HT_string Tryd.underlying9 h0
  obtain ⟨ss, e1, k1, hss⟩ := dec_strs h1
  obtain ⟨so, e2, k2, _⟩ := HT_string Tryd.underlying9 h2
  cases e0; cases e1; cases e2
  exact ⟨⟨nm, ss, so⟩, ⟨⟨by rw [maxLen_eq]; show ss.length ≤ _; omega, k0, k2, hss⟩, k1⟩, rfl⟩
theorem dec_Cs {n : Nat} {l : List C} (h : HT Tryd.prog n 31 l) : ∃ ts : List Cl, l = [.sl (ts.map encC)] ∧ ts.length ≤ maxLen ∧ ∀ t ∈ ts, okC t := by
  obtain ⟨m, xs, rfl, rfl, k3, _, hx⟩ := HT_slice Tryd.underlying31 h
  obtain ⟨ts, rfl, hts⟩ := list_of (e := encC) (Q := okC) (xs := xs) (fun x hxx => by
      obtain ⟨ys, q1, rfl⟩ := hx x hxx
      rw [ag_claim]
      exact dec_C m ys q1)
  exact ⟨ts, rfl, by simpa using k3, hts⟩
/-- the types that a law of these reads -/
def lawTypes : List Nat := [3, 2, 9, 37, 24, 22, 33, 31, 55]
theorem lawClosed : closedT Tryd.prog lawTypes = true := by kernel_rfl
end Go.Eng
