/-
  Proved: what is put together is taken apart, and the other way round: for texts of at most 300 bytes, any number.
-/
import Derived.Test.YtfbocehdhmpnaaaDoorPureDigLaw
import Derived.Test.YtfbocehdhmpnaaaDoorPrint11
namespace Go.Proofs.YtfbocehdhmpnaaaDoor.Pure
set_option linter.unusedVariables false
set_option linter.unusedSimpArgs false
open Go.RowKit Go.Lib Go.Proofs.YtfbocehdhmpnaaaDoor.Print Go.Proofs.YtfbocehdhmpnaaaDoor.Spec Go.Proofs.YtfbocehdhmpnaaaDoor.Aux Go.Proofs.YtfbocehdhmpnaaaDoorW.PrintWords Go.Proofs.YtfbocehdhmpnaaaDoorW.PrintLast Go.Proofs.YtfbocehdhmpnaaaDoorW.PrintMore

theorem i64_wf_ {n : Int} (h : (Lit.int .i64 n).wf = true) : -9223372036854775808 ≤ n ∧ n ≤ 9223372036854775807 := by
  simp [Lit.wf, IntKind.min, IntKind.max, IntKind.signed, IntKind.bits] at h
  omega
theorem apart_j1 (s : ByteArray) (n : Int) : Ev (fun k => sequiturlaw02_DigitApart.j1 k s n true) true := Ev.step (f := fun k => (sequiturlaw02_alive.f k).bind fun u => some u) (fun k => by simp only [sequiturlaw02_DigitApart.j1, if_true]) (Ev.bind alive_ev (Ev.now _))
theorem apart_j0 (s : ByteArray) (n : Int) (hs : s.size ≤ 300) (hn1 : n ≤ 9223372036854775807) : Ev (fun k => sequiturlaw02_DigitApart.j0 k s n) true := by
  have hz := size_list s
  have hj := apart_j1 s n
  by_cases h0 : s.size = 0
  · refine Ev.step (fun k => ?_) hj
    simp only [sequiturlaw02_DigitApart.j0]
    rw [if_pos (by rw [Lib.toList_data]; exact List.eq_nil_of_length_eq_zero (by omega))]
  · have hne : ¬ s.toList = ([] : List UInt8) := by
      rw [Lib.toList_data]
      intro he
      rw [he] at hz; simp at hz; omega
    have hw : wrap64 ((s.size : Int) - 1) = ((s.size - 1 : Nat) : Int) := by rw [wrap_in _ (by omega) (by omega)]; omega
    have hb := bt_nat s (s.size - 1) (by omega)
    have hlast : isDig (s.data.toList[s.size - 1]'(by omega)) = false → 1 ≤ n → n ≤ 2147483647 → Ev (fun k => sequiturlaw02_DigitApart.j1 k s n false) true := by
      intro hd h1 h2
      have hp := partS_index s n (by omega) hd h1 h2
      have hil : (indexS s n).size ≤ 140737488351232 := by
        have := itoa_len n (by omega) (by omega)
        unfold indexS
        rw [if_neg (by omega), ByteArray.size_append, mkB_size]; omega
      refine Ev.step (f := fun k => (digit_Index.f s n).bind fun t => (digit_Part.f k t).bind fun q => if q.2.2 = true then (if q.1.toList = s.toList then (if q.2.1 = n then ((sequiturlaw02_alive.f k).bind fun u => some u) else some false) else some false) else some false) (fun k => by simp only [sequiturlaw02_DigitApart.j1, Bool.false_eq_true, if_false]) ?_
      rw [index_f s n (by omega) (by omega)]
      simp only [Option.bind_some]
      refine Ev.bind (part_ev _ hil) ?_
      rw [hp]
      exact Ev.pos rfl (Ev.pos rfl (Ev.pos rfl (Ev.bind alive_ev (Ev.now _))))
    have hrest : isDig (s.data.toList[s.size - 1]'(by omega)) = false → Ev (fun k => if n < 1 then sequiturlaw02_DigitApart.j1 k s n true else sequiturlaw02_DigitApart.j1 k s n (decide (n > 2147483647))) true := by
      intro hd
      by_cases h1 : n < 1
      · exact Ev.pos h1 hj
      · refine Ev.neg h1 ?_
        by_cases h2 : n > 2147483647
        · rw [decide_eq_true h2]; exact hj
        · rw [decide_eq_false h2]; exact hlast hd (by omega) (by omega)
    refine Ev.step (f := fun k => if bt s ((s.size - 1 : Nat) : Int) ≥ 48 then (if bt s ((s.size - 1 : Nat) : Int) ≤ 57 then sequiturlaw02_DigitApart.j1 k s n true else (if n < 1 then sequiturlaw02_DigitApart.j1 k s n true else sequiturlaw02_DigitApart.j1 k s n (decide (n > 2147483647)))) else (if n < 1 then sequiturlaw02_DigitApart.j1 k s n true else sequiturlaw02_DigitApart.j1 k s n (decide (n > 2147483647)))) (fun k => ?_) ?_
    · simp only [sequiturlaw02_DigitApart.j0]
      rw [if_neg hne, hw, if_pos (by omega), if_pos (by omega)]
    · rw [hb]
      have hi := isDig_iff (s.data.toList[s.size - 1]'(by omega))
      by_cases h1 : ((s.data.toList[s.size - 1]'(by omega)).toNat : Int) ≥ 48
      · refine Ev.pos h1 ?_
        by_cases h2 : ((s.data.toList[s.size - 1]'(by omega)).toNat : Int) ≤ 57
        · exact Ev.pos h2 hj
        · exact Ev.neg h2 (hrest (by rw [← Bool.not_eq_true, hi]; omega))
      · exact Ev.neg h1 (hrest (by rw [← Bool.not_eq_true, hi]; omega))
theorem DigitApart : sequiturlaw02_DigitApart.Pure := by
  intro s n hs hn
  obtain ⟨h0, h1⟩ := i64_wf_ hn
  refine Ev.rounds (g := fun k => sequiturlaw02_DigitApart.f k s n) ?_
  unfold sequiturlaw02_DigitApart.f
  by_cases h : (s.size : Int) > 300
  · exact Ev.pos h (Ev.bind alive_ev (Ev.now _))
  · have hz := size_list s
    have hj := apart_j0 s n (by omega) h1
    refine Ev.neg h (Ev.bind (part_ev s (by omega)) ?_)
    rcases partS_back s with ⟨i, m, hp, hi0, hi1, hm0, hm1, hb⟩ | hp
    · rw [hp]
      have hx := extract_head s i (by omega)
      have hxl : (s.extract 0 i).size = i := by
        have := size_list (s.extract 0 i)
        rw [hx, List.length_take] at this; omega
      refine Ev.pos rfl (Ev.neg ?_ (Ev.neg (show ¬ m < 1 by omega) (Ev.neg (show ¬ m > 2147483647 by omega) ?_)))
      · show ¬ (s.extract 0 i).toList = ([] : List UInt8)
        rw [Lib.toList_data]
        intro he
        have := size_list (s.extract 0 i)
        rw [he] at this; simp at this; omega
      · show Ev (fun k => (digit_Index.f (s.extract 0 i) m).bind fun t => if t.toList = s.toList then sequiturlaw02_DigitApart.j0 k s n else some false) true
        rw [index_f _ m (by omega) (by omega)]
        simp only [Option.bind_some]
        have : indexS (s.extract 0 i) m = s := by
          unfold indexS
          rw [if_neg (by omega)]; exact hb
        rw [this]
        exact Ev.pos rfl hj
    · rw [hp]
      exact Ev.neg (by simp) (Ev.pos rfl (Ev.pos rfl hj))
end Go.Proofs.YtfbocehdhmpnaaaDoor.Pure
