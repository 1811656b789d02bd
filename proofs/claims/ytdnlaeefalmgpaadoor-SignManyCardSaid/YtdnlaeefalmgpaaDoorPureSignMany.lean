/-
  Proved: just 256 functions can be put in one by one, a 257th cannot: for any number up to 299.
-/
import Derived.Test.YtdnlaeefalmgpaaDoorPureSignBase
import Derived.Test.YtdnlaeefalmgpaaDoorPureDigBase
import Derived.Test.YtdnlaeefalmgpaaDoorPrint2
import Derived.Test.YtdnlaeefalmgpaaDoorPrint3
namespace Go.Proofs.YtdnlaeefalmgpaaDoor.Pure
set_option linter.unusedVariables false
set_option linter.unusedSimpArgs false
open Go.RowKit Go.Lib Go.Proofs.YtdnlaeefalmgpaaDoor.Print Go.Proofs.YtdnlaeefalmgpaaDoor.Spec Go.Proofs.YtdnlaeefalmgpaaDoor.Aux Go.Proofs.YtdnlaeefalmgpaaDoorW.PrintWords Go.Proofs.YtdnlaeefalmgpaaDoorW.PrintLast Go.Proofs.YtdnlaeefalmgpaaDoorW.PrintMore


/-- The name of the function of a number. -/
def nameN (i : Nat) : ByteArray := mkB (110 :: itoa (i : Int))
def intB : ByteArray := ⟨#[73, 110, 116]⟩
def mkFuns (m : Nat) : List S33 := (List.range m).map fun i => ⟨nameN i, [], intB⟩
theorem mkFuns_length (m : Nat) : (mkFuns m).length = m := by simp [mkFuns]
theorem mkFuns_succ (m : Nat) : mkFuns (m + 1) = mkFuns m ++ [⟨nameN m, [], intB⟩] := by simp [mkFuns, List.range_succ]
theorem mkFuns_good (m : Nat) (h : m ≤ 300) : goodF (mkFuns m) := ⟨by rw [mkFuns_length]; omega, fun x hx => by
  obtain ⟨i, _, rfl⟩ := List.mem_map.1 hx
  simp⟩
theorem itoa_nat (i : Nat) : itoa (i : Int) = decDigits i := by
  unfold itoa
  rw [if_neg (by omega)]; rfl
theorem nameN_ok (i : Nat) (h : i < 300) : nameS (nameN i) = true := by
  unfold nameS nameN
  rw [mkB_data, itoa_nat]
  have h1 : nameL (110 :: decDigits i) = true := by
    have hl := decDigits_len_le i (by omega)
    have ha := dec_all i
    rw [nameL]
    simp only [Bool.and_eq_true, decide_eq_true_eq, List.all_eq_true]
    refine ⟨⟨by omega, by decide⟩, fun c hc => ?_⟩
    have := List.all_eq_true.1 ha c hc
    unfold isDig at this
    simp only [Bool.and_eq_true, decide_eq_true_eq] at this
    unfold innerI digitI b2i
    have e1 : (48 : Int) ≤ (c.toNat : Int) := by omega
    have e2 : (c.toNat : Int) ≤ 57 := by omega
    simp [e1, e2]
  have h2 : wordL (110 :: decDigits i) = false := by
    unfold wordL wordList
    simp [List.contains_cons]
  rw [h1, h2]; rfl
theorem nameN_inj {i j : Nat} (hi : i < 300) (hj : j < 300) (h : nameN i = nameN j) : i = j := by
  have h1 := mkB_inj.1 h
  injection h1 with _ h1
  have := itoa_inj h1 (by omega) (by omega)
  omega
theorem find_new (m : Nat) (h : m < 300) : findS (mkFuns m) (nameN m) = none := by
  unfold findS
  rw [List.find?_eq_none]
  intro x hx
  obtain ⟨i, hi, rfl⟩ := List.mem_map.1 hx
  have := List.mem_range.1 hi
  simp only [decide_eq_true_eq]
  intro e
  have := nameN_inj (by omega) h e
  omega
theorem known_new (i : Nat) : hasB (allS []) (nameN i) = false := by
  unfold allS
  simp only [List.append_nil, hasB_cons]
  have h1 : (⟨#[66, 111, 111, 108]⟩ : ByteArray) ≠ nameN i := fun e => by
    have := mkB_inj.1 (show mkB [66, 111, 111, 108] = _ from e)
    injection this with h _
    exact absurd h (by decide)
  have h2 : (⟨#[73, 110, 116]⟩ : ByteArray) ≠ nameN i := fun e => by
    have := mkB_inj.1 (show mkB [73, 110, 116] = _ from e)
    injection this with h _
    exact absurd h (by decide)
  rw [decide_eq_false h1, decide_eq_false h2]; rfl
theorem check_new (i : Nat) (h : i < 300) : checkS [] ⟨nameN i, [], intB⟩ = 0 := by
  unfold checkS
  rw [if_pos (nameN_ok i h), if_neg (by simp)]
  show (if hasB (allS []) intB then (0 : Int) else 11) = 0
  decide +kernel
theorem fun_new (i : Nat) (h : i < 256) : funS [] (mkFuns i) ⟨nameN i, [], intB⟩ = ([], mkFuns (i + 1), 0) := by
  unfold funS
  rw [if_pos (check_new i (by omega)), find_new i (by omega), known_new, mkFuns_length, if_neg (by simp), if_neg (by simp), if_neg (by omega), mkFuns_succ]
theorem find_new2 (i : Nat) (h0 : 256 ≤ i) (h : i < 300) : findS (mkFuns 256) (nameN i) = none := by
  unfold findS
  rw [List.find?_eq_none]
  intro x hx
  obtain ⟨j, hj, rfl⟩ := List.mem_map.1 hx
  have := List.mem_range.1 hj
  simp only [decide_eq_true_eq]
  intro e
  have := nameN_inj (by omega) h e
  omega
theorem fun_full (i : Nat) (h0 : 256 ≤ i) (h : i < 300) : funS [] (mkFuns 256) ⟨nameN i, [], intB⟩ = ([], [], 2) := by
  unfold funS
  rw [if_pos (check_new i h), find_new2 i h0 h, known_new, mkFuns_length, if_neg (by simp), if_neg (by simp), if_pos (by omega)]
theorem consts_all (m : Nat) : constsS intB (mkFuns m) = (List.range m).map nameN := by
  induction m with
  | zero => rfl
  | succ m ih => rw [mkFuns_succ, constsS_snoc, if_pos ⟨rfl, rfl⟩, ih, List.range_succ]; simp
theorem many_end (n : Nat) (hn : n < 300) : Ev (fun k => sequiturlaw06_SignMany.l0 k n n [] (mkFuns (min n 256))) true := by
  refine Ev.step (f := fun k => if ((mkFuns (min n 256)).length : Int) = mn n 256 then (if (n : Int) < 2 then some true else ((sign_Consts.f k [] (mkFuns (min n 256)) intB).bind fun t => (sequiturbase_Has.f k t ⟨#[110, 49]⟩).bind fun u => some u)) else none) (fun k => ?_) ?_
  · simp only [sequiturlaw06_SignMany.l0]
    rw [if_neg (by omega)]; rfl
  · refine Ev.pos ?_ ?_
    · rw [mkFuns_length]; unfold mn; split <;> omega
    · by_cases h : n < 2
      · exact Ev.pos (by omega) (Ev.now _)
      · refine Ev.neg (by omega) (Ev.bind (consts_ev [] _ intB (by rw [mkFuns_length]; omega)) ?_)
        rw [consts_all]
        refine Ev.bind (has_ev _ _ (by unfold maxLen; simp; omega)) (Ev.some_ ?_)
        unfold hasB
        rw [List.any_eq_true]
        refine ⟨nameN 1, List.mem_map.2 ⟨1, List.mem_range.2 (by omega), rfl⟩, ?_⟩
        rw [decide_eq_true_eq]
        unfold nameN
        rw [itoa_nat, decDigits_one (by omega)]; rfl
theorem name_cat (i : Nat) : (⟨#[110]⟩ : ByteArray) ++ mkB (itoa (i : Int)) = nameN i := mkB_append [110] _
theorem many_loop (n : Nat) (hn : n < 300) : ∀ (d i : Nat), i + d = n → Ev (fun k => sequiturlaw06_SignMany.l0 k n i [] (mkFuns (min i 256))) true
  | 0, i, h => by
    have : i = n := by omega
    subst this
    exact many_end i hn
  | d + 1, i, h => by
    have ih := many_loop n hn d (i + 1) (by omega)
    refine Ev.step (f := fun k => (sequiturbase_Digits.f k i).bind fun t => (if 1 + t.size ≤ 9223372036854775807 then ((sign_Fun.f k [] (mkFuns (min i 256)) ((⟨#[110]⟩ : ByteArray) ++ t) ([] : List ByteArray) intB).bind fun b => (if b.2.2 = 0 then (if (i : Int) < 256 then (sequiturlaw06_SignMany.j1 k n i b.2.2 false [] (mkFuns (min i 256)) b.1 b.2.1) else (sequiturlaw06_SignMany.j1 k n i b.2.2 true [] (mkFuns (min i 256)) b.1 b.2.1)) else (if (i : Int) < 256 then (sequiturlaw06_SignMany.j1 k n i b.2.2 true [] (mkFuns (min i 256)) b.1 b.2.1) else (sequiturlaw06_SignMany.j1 k n i b.2.2 (b.2.2 != 2) [] (mkFuns (min i 256)) b.1 b.2.1)))) else none)) (fun k => ?_) ?_
    · simp only [sequiturlaw06_SignMany.l0]
      rw [if_pos (by omega)]; rfl
    · refine Ev.bind (baseDigits_ev i (by omega) (by omega)) ?_
      have hl := itoa_len i (by omega) (by omega)
      rw [mkB_size, name_cat]
      refine Ev.pos (by omega) (Ev.bind (fun_ev [] _ (nameN i) [] intB (by simp) (mkFuns_good _ (by omega)) (by simp)) ?_)
      by_cases h2 : i < 256
      · have e1 : min i 256 = i := by omega
        have e2 : min (i + 1) 256 = i + 1 := by omega
        rw [e1, fun_new i h2]
        rw [e2] at ih
        refine Ev.pos rfl (Ev.pos (by omega) (Ev.step (f := fun k => sequiturlaw06_SignMany.l0 k n ((i + 1 : Nat) : Int) [] (mkFuns (i + 1))) (fun k => ?_) ih))
        simp only [sequiturlaw06_SignMany.j1, Bool.false_eq_true, if_false, if_true]
        rw [wrap_succ i (by omega)]
      · have e1 : min i 256 = 256 := by omega
        have e2 : min (i + 1) 256 = 256 := by omega
        rw [e1, fun_full i (by omega) (by omega)]
        rw [e2] at ih
        refine Ev.neg (by simp) (Ev.neg (by omega) (Ev.step (f := fun k => sequiturlaw06_SignMany.l0 k n ((i + 1 : Nat) : Int) [] (mkFuns 256)) (fun k => ?_) ih))
        have e3 : ((2 : Int) != 2) = false := by decide
        have e4 : ¬ (2 : Int) = 0 := by decide
        simp only [sequiturlaw06_SignMany.j1, e3, e4, Bool.false_eq_true, if_false]
        rw [wrap_succ i (by omega)]
theorem SignMany : sequiturlaw06_SignMany.Pure := by
  intro a ha
  refine Ev.rounds (g := fun k => sequiturlaw06_SignMany.f k a) ?_
  unfold sequiturlaw06_SignMany.f
  refine Ev.bind sAlive_ev (Ev.pos rfl ?_)
  have h0 : 0 ≤ a := by
    simp [Lit.wf, IntKind.min, IntKind.max, IntKind.signed, IntKind.bits] at ha
    omega
  have e1 : Int.tmod a 300 = ((a % 300).toNat : Int) := by rw [Int.tmod_eq_emod_of_nonneg h0]; omega
  rw [e1, wrap_in _ (by omega) (by omega)]
  exact many_loop (a % 300).toNat (by omega) (a % 300).toNat 0 (by omega)
end Go.Proofs.YtdnlaeefalmgpaaDoor.Pure
