/-
  The digits of a number: what the reference's functions tell.
-/
import Derived.Test.YtdnlaeefalmgpaaDoorPureDec
import Derived.Test.YtdnlaeefalmgpaaDoorPrint2
namespace Go.Proofs.YtdnlaeefalmgpaaDoor.Pure
set_option linter.unusedVariables false
set_option linter.unusedSimpArgs false
open Go.RowKit Go.Lib Go.Proofs.YtdnlaeefalmgpaaDoor.Print Go.Proofs.YtdnlaeefalmgpaaDoor.Spec Go.Proofs.YtdnlaeefalmgpaaDoor.Aux Go.Proofs.YtdnlaeefalmgpaaDoorW.PrintWords Go.Proofs.YtdnlaeefalmgpaaDoorW.PrintLast Go.Proofs.YtdnlaeefalmgpaaDoorW.PrintMore

/-- A text of bytes. -/
def mkB (l : List UInt8) : ByteArray := ⟨l.toArray⟩
theorem mkB_data (l : List UInt8) : (mkB l).data.toList = l := rfl
theorem mkB_toList (l : List UInt8) : (mkB l).toList = l := by rw [Lib.toList_data]; rfl
theorem mkB_size (l : List UInt8) : (mkB l).size = l.length := by simp [mkB, ByteArray.size]
theorem mkB_append (l m : List UInt8) : mkB l ++ mkB m = mkB (l ++ m) := by
  rw [← ba_data]
  simp [mkB]
theorem mkB_of (s : ByteArray) : mkB s.data.toList = s := by rw [← ba_data]; rfl
theorem mkB_inj {l m : List UInt8} : mkB l = mkB m ↔ l = m := by rw [← ba_data]; rfl
theorem decDigits_len_le (u : Nat) (h : u < 18446744073709551616) : (decDigits u).length ≤ 20 := by
  rw [decDigits_length]
  rcases Nat.lt_or_ge 20 (nDigits u) with h1 | h1
  · exfalso
    have h2 : ∀ (k u : Nat), k + 1 < nDigits u → 10 ^ (k + 1) ≤ u := by
      intro k
      induction k with
      | zero =>
        intro u hk
        by_cases h3 : u < 10
        · rw [nDigits_small h3] at hk; omega
        · simpa using h3
      | succ k ih =>
        intro u hk
        by_cases h3 : u < 10
        · rw [nDigits_small h3] at hk; omega
        · rw [nDigits_big h3] at hk
          have := ih (u / 10) (by omega)
          rw [Nat.pow_succ]; omega
    have := h2 19 u h1
    have h4 : (10 : Nat) ^ (19 + 1) = 100000000000000000000 := by decide
    omega
  · exact h1
theorem itoa_len (n : Int) (h0 : -9223372036854775808 ≤ n) (h1 : n ≤ 9223372036854775807) : (itoa n).length ≤ 21 := by
  unfold itoa
  split
  · have := decDigits_len_le n.natAbs (by omega)
    simp; omega
  · have := decDigits_len_le n.toNat (by omega)
    omega
theorem wrap_u64 (x : Int) (h0 : 0 ≤ x) (h1 : x < 18446744073709551616) : IntKind.u64.wrap x = x := by
  simp only [IntKind.wrap, IntKind.bits, IntKind.signed]
  simp
  omega
theorem digits_ev : ∀ (u : Nat), u < 18446744073709551616 → Ev (fun k => sequiturbase_digits.f k (u : Int)) (mkB (decDigits u)) := by
  intro u
  induction u using Nat.strongRecOn with
  | _ u ih =>
    intro hu
    by_cases h : u < 10
    · refine Ev.step (f := fun _ => some (mkB (decDigits u))) (fun k => ?_) (Ev.now _)
      simp only [sequiturbase_digits.f]
      rw [if_pos (by omega), decDigits_one h, wrap_u64 _ (by omega) (by omega), Int.emod_eq_of_lt (by omega) (by omega)]
      rfl
    · have hl := decDigits_len_le (u / 10) (by omega)
      refine Ev.step (f := fun k => (sequiturbase_digits.f k ((u / 10 : Nat) : Int)).bind fun t => if t.size + 1 ≤ 9223372036854775807 then some (t ++ mkB [UInt8.ofNat (48 + u % 10)]) else none) (fun k => ?_) (Ev.bind (ih (u / 10) (by omega) (by omega)) ?_)
      · simp only [sequiturbase_digits.f]
        have e1 : Int.tdiv (u : Int) 10 = ((u / 10 : Nat) : Int) := by rw [Int.tdiv_eq_ediv_of_nonneg (by omega)]; omega
        have e2 : Int.tmod (u : Int) 10 = ((u % 10 : Nat) : Int) := by rw [Int.tmod_eq_emod_of_nonneg (by omega)]; omega
        have es : strOfNums [48 + ((u % 10 : Nat) : Int)] = mkB [UInt8.ofNat (48 + u % 10)] := by
          simp only [strOfNums, mkB, List.map_cons, List.map_nil]
          rfl
        rw [if_neg (by omega), e1, e2, wrap_u64 ((u / 10 : Nat) : Int) (by omega) (by omega), wrap_u64 _ (by omega) (by omega), Int.emod_eq_of_lt (by omega) (by omega)]
        simp only [Option.bind_some]
        rw [es]
        rfl
      · rw [mkB_size]
        exact Ev.pos (by omega) (Ev.some_ (by rw [mkB_append, ← decDigits_big h]))
theorem baseDigits_ev (n : Int) (h0 : -9223372036854775808 ≤ n) (h1 : n ≤ 9223372036854775807) : Ev (fun k => sequiturbase_Digits.f k n) (mkB (itoa n)) := by
  unfold sequiturbase_Digits.f itoa
  by_cases h : n < 0
  · rw [if_pos h]
    have e : IntKind.u64.wrap ((IntKind.u64.wrap (wrap64 (-(wrap64 (n + 1))))) + 1) = ((n.natAbs : Nat) : Int) := by
      rw [wrap_in (n + 1) (by omega) (by omega), wrap_in (-(n + 1)) (by omega) (by omega), wrap_u64 (-(n + 1)) (by omega) (by omega), wrap_u64 _ (by omega) (by omega)]; omega
    rw [e]
    simp only [if_pos h]
    have hl := decDigits_len_le n.natAbs (by omega)
    refine Ev.bind (digits_ev n.natAbs (by omega)) ?_
    rw [mkB_size]
    exact Ev.pos (by omega) (Ev.some_ (mkB_append [45] _))
  · rw [if_neg h]
    simp only [if_neg h]
    have e : IntKind.u64.wrap n = ((n.toNat : Nat) : Int) := by rw [wrap_u64 _ (by omega) (by omega)]; omega
    rw [e]
    exact Ev.bind (digits_ev n.toNat (by omega)) (Ev.now _)
end Go.Proofs.YtdnlaeefalmgpaaDoor.Pure
