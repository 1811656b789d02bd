-- own work: an evaluator of the program's code, and what it answers
import Derived.Test.YtapjanalameofaaDoorTab
import Derived.Test.YtapjanalameofaaDoorRB
import Derived.Test.YtapjanalameofaaDoorSCon
/- Digits, and names that are not taken: the program and the reference. -/
set_option maxRecDepth 100000
set_option linter.unusedVariables false
set_option linter.unusedSimpArgs false
namespace Go.Eng
open Go Go.Proofs
def i64P (n : Int) : Prop := -9223372036854775808 ≤ n ∧ n ≤ 9223372036854775807
set_option maxHeartbeats 1000000 in
theorem dtext_ev (n : Int) (h : i64P n) (ro : Nat) (m : Mem) : evL Tryd.prog An ro 52 [.c (.v (.int .i64 n))] m = some (.c (.v (.string (digB n))), m) := by
  have hf := fun ro m => fmt_ev n h.1 h.2 ro m
  refine evL_by (n := 5) (by kernel_rfl) rfl fn52 rfl rfl rfl rfl ?_
  simp only [go_sem, ↓reduceIte, hf]
set_option maxHeartbeats 1000000 in
theorem dindex_ev (base : ByteArray) (n : Nat) (hb : base.size ≤ 1000000000) (hn : n ≤ 1000000000000) (ro : Nat) (m : Mem) : evL Tryd.prog An ro 40 [.c (.v (.string base)), .c (.v (.int .i64 n))] m = some (.c (.v (.string (ixB base n))), m) := by
  have hf := fun ro m => dtext_ev (n : Int) ⟨by omega, by omega⟩ ro m
  refine evL_by (n := 12) (by kernel_rfl) rfl fn40 rfl rfl rfl rfl ?_
  unfold ixB
  by_cases h0 : n = 0
  · subst h0
    have c1 : decide (((0 : Nat) : Int) ≤ 0) = true := dec_t (by omega)
    simp only [go_sem, ↓reduceIte, c1]
  · have c1 : decide ((n : Int) ≤ 0) = false := dec_f (by omega)
    have hd := digB_size (n : Int)
    have c2 : base.size + (digB (n : Int)).size ≤ 9223372036854775807 := by omega
    simp only [go_sem, ↓reduceIte, c1, hf, c2, if_neg h0]
set_option maxHeartbeats 2000000 in
theorem fresh_ev (base : ByteArray) (taken : List ByteArray) (hb : base.size ≤ 1000000000) (hl : taken.length ≤ 1000000000) (ro : Nat) (m : Mem) :
    evL Tryd.prog An ro 18 [.c (.v (.string base)), .c (.sl (taken.map cS))] m = some (.c (.v (.string (freshB base taken))), m) := by
  have hle := freshN_le base taken
  refine evL_by (n := 17) (by kernel_rfl) rfl fn18 rfl rfl rfl rfl ?_
  simp only [go_sem, ↓reduceIte]
  have hx := fun n (hn : n ≤ 1000000000000) ro m => dindex_ev base n hb hn ro m
  have hc := fun s ro m => scontains_ev taken s (by rw [maxLen_eq]; omega) ro m
  generalize hL : loopW _ _ = L
  obtain ⟨i, h1, hE, rfl⟩ := loopW_at hL (fun i : Nat => [(5, .c (.v (.int .i64 i)))]) (fun _ => [] :: m) (fun i => i ≤ freshN base taken) (fun i => i = freshN base taken) (fun i => freshN base taken - i) 0 rfl rfl (by omega) (by
    rintro i h1 hE
    have c1 := freshN_before (base := base) (taken := taken) (i := i) (by omega)
    unfold takenB at c1
    have c3 : IntKind.i64.wrap ((i : Int) + 1) = ((i + 1 : Nat) : Int) := wrap64 (by omega) (by omega)
    have hx' := hx i (by omega)
    refine ⟨i + 1, by omega, by omega, ?_⟩
    rw [round_go]
    simp only [go_sem, ↓reduceIte, hx', hc, c1, c3])
  clear hL
  subst hE
  rw [loopW_go]
  have c1 := freshN_not (base := base) (taken := taken) (by omega)
  unfold takenB at c1
  have hx' := hx (freshN base taken) (by omega)
  simp only [go_sem, ↓reduceIte, hx', hc, c1]
  rfl
/-! ### the reference -/
theorem wrapU {n : Int} (h : 0 ≤ n) (h2 : n < 18446744073709551616) : IntKind.u64.wrap n = n := by
  simp only [IntKind.wrap, IntKind.bits, IntKind.signed, Bool.false_and, Bool.false_eq_true, if_false, Nat.reducePow, Int.reducePow]
  omega
theorem wrapB {n : Int} (h : 0 ≤ n) (h2 : n < 256) : IntKind.u8.wrap n = n := by
  simp only [IntKind.wrap, IntKind.bits, IntKind.signed, Bool.false_and, Bool.false_eq_true, if_false, Nat.reducePow, Int.reducePow]
  omega
theorem push_one (b : UInt8) : ByteArray.empty.push b = mkS [b] := rfl
theorem dec_len {u : Nat} (h : u < 18446744073709551616) : (Lib.decDigits u).length ≤ 20 := by
  have := digF_len 20 u
  rw [digF_eq 20 u (by have e : (10 : Nat) ^ 20 = 100000000000000000000 := by decide
                       omega) (by decide)] at this
  exact this
set_option maxHeartbeats 2000000 in
theorem digits_ev (u : Nat) (hu : u < 18446744073709551616) (ro : Nat) (m : Mem) : evL Tryd.prog An ro 70 [.c (.v (.int .u64 u))] m = some (.c (.v (.string (mkS (Lib.decDigits u)))), m) := by
  induction u using Nat.strongRecOn generalizing ro m with
  | _ u ih =>
  refine evL_by (n := 20) (by kernel_rfl) rfl fn70 rfl rfl rfl rfl ?_
  by_cases h : u < 10
  · have c1 : decide ((u : Int) < 10) = true := dec_t (by omega)
    have c2 : IntKind.u64.wrap (48 + (u : Int)) = ((48 + u : Nat) : Int) := (wrapU (by omega) (by omega)).trans (by omega)
    have c3 : IntKind.u8.wrap ((48 + u : Nat) : Int) = ((48 + u : Nat) : Int) := wrapB (by omega) (by omega)
    rw [Lib.decDigits, dif_pos h]
    simp only [go_sem, ↓reduceIte, c1, c2, c3, push_one]
  · have c1 : decide ((u : Int) < 10) = false := dec_f (by omega)
    have c2 : IntKind.u64.wrap (Int.tdiv (u : Int) 10) = ((u / 10 : Nat) : Int) := by
      rw [show Int.tdiv (u : Int) 10 = ((u / 10 : Nat) : Int) by rw [Int.tdiv_eq_ediv_of_nonneg (by omega)]; omega]
      exact wrapU (by omega) (by omega)
    have c3 : Int.tmod (u : Int) 10 = ((u % 10 : Nat) : Int) := by rw [Int.tmod_eq_emod_of_nonneg (by omega)]; omega
    have c4 : IntKind.u64.wrap (48 + ((u % 10 : Nat) : Int)) = ((48 + u % 10 : Nat) : Int) := (wrapU (by omega) (by omega)).trans (by omega)
    have c5 : IntKind.u8.wrap ((48 + u % 10 : Nat) : Int) = ((48 + u % 10 : Nat) : Int) := wrapB (by omega) (by omega)
    have hc := fun ro m => ih (u / 10) (by omega) (by omega) ro m
    have hl := dec_len (u := u / 10) (by omega)
    have c6 : (mkS (Lib.decDigits (u / 10))).size + (mkS [UInt8.ofNat (48 + u % 10)]).size ≤ 9223372036854775807 := by
      rw [mkS_size, mkS_size]; simp only [List.length_cons, List.length_nil]; omega
    have c7 : ((10 : Int) = 0) = False := by simp
    rw [Lib.decDigits, dif_neg h, ← mkS_append]
    simp only [go_sem, ↓reduceIte, c1, c2, c3, c4, c5, c6, c7, hc, push_one]
set_option maxHeartbeats 2000000 in
theorem bdigits_ev (n : Int) (h : i64P n) (ro : Nat) (m : Mem) : evL Tryd.prog An ro 42 [.c (.v (.int .i64 n))] m = some (.c (.v (.string (digB n))), m) := by
  obtain ⟨h0, h1⟩ := h
  refine evL_by (n := 15) (by kernel_rfl) rfl fn42 rfl rfl rfl rfl ?_
  by_cases hn : n < 0
  · have c1 : decide (n < 0) = true := dec_t hn
    have c2 : IntKind.i64.wrap (n + 1) = n + 1 := wrap64 (by omega) (by omega)
    have c3 : IntKind.i64.wrap (0 - (n + 1)) = 0 - (n + 1) := wrap64 (by omega) (by omega)
    have c4 : IntKind.u64.wrap (0 - (n + 1)) = 0 - (n + 1) := wrapU (by omega) (by omega)
    have c5 : IntKind.u64.wrap (0 - (n + 1) + 1) = ((n.natAbs : Nat) : Int) := (wrapU (by omega) (by omega)).trans (by omega)
    have hc := fun ro m => digits_ev n.natAbs (by omega) ro m
    have hl := dec_len (u := n.natAbs) (by omega)
    have c6 : (#[45] : Array UInt8).size + (mkS (Lib.decDigits n.natAbs)).size ≤ 9223372036854775807 := by
      rw [mkS_size]
      have : (#[45] : Array UInt8).size = 1 := rfl
      omega
    have e : digB n = (⟨#[45]⟩ : ByteArray) ++ mkS (Lib.decDigits n.natAbs) := by
      rw [digB_eq n h0 h1, show (⟨#[45]⟩ : ByteArray) = mkS [45] from rfl, mkS_append]
      unfold Lib.itoa
      simp only [hn, if_true]
      rfl
    rw [e]
    simp only [go_sem, ↓reduceIte, c1, c2, c3, c4, c5, c6, hc]
  · have c1 : decide (n < 0) = false := dec_f hn
    have c4 : IntKind.u64.wrap n = ((n.toNat : Nat) : Int) := (wrapU (by omega) (by omega)).trans (by omega)
    have hc := fun ro m => digits_ev n.toNat (by omega) ro m
    have e : digB n = mkS (Lib.decDigits n.toNat) := by
      rw [digB_eq n h0 h1]
      unfold Lib.itoa
      simp only [hn, if_false]
      rfl
    rw [e]
    simp only [go_sem, ↓reduceIte, c1, c4, hc]
set_option maxHeartbeats 2000000 in
theorem rfresh_ev (base : ByteArray) (taken : List ByteArray) (hb : base.size ≤ 1000000000) (hl : taken.length ≤ 1000000000) (ro : Nat) (m : Mem) :
    evL Tryd.prog An ro 19 [.c (.v (.string base)), .c (.sl (taken.map cS))] m = some (.c (.v (.string (freshB base taken))), m) := by
  have hle := freshN_le base taken
  refine evL_by (n := 18) (by kernel_rfl) rfl fn19 rfl rfl rfl rfl ?_
  simp only [go_sem, ↓reduceIte]
  have hc := fun s ro m => has_ev taken s (by rw [maxLen_eq]; omega) ro m
  generalize hL : loopW _ _ = L
  obtain ⟨i, h1, hE, rfl⟩ := loopW_at hL (fun i : Nat => [(5, .c (.v (.string (ixB base i)))), (6, .c (.v (.int .i64 ((i + 1 : Nat) : Int))))]) (fun _ => [] :: m) (fun i => i ≤ freshN base taken) (fun i => i = freshN base taken) (fun i => freshN base taken - i) 0 rfl rfl (by omega) (by
    rintro i h1 hE
    have c1 := freshN_before (base := base) (taken := taken) (i := i) (by omega)
    unfold takenB at c1
    have c3 : IntKind.i64.wrap (((i + 1 : Nat) : Int) + 1) = ((i + 1 + 1 : Nat) : Int) := (wrap64 (by omega) (by omega)).trans (by omega)
    have hx' := fun ro m => bdigits_ev ((i + 1 : Nat) : Int) ⟨by omega, by omega⟩ ro m
    have hd := digB_size ((i + 1 : Nat) : Int)
    have c2 : base.size + (digB ((i + 1 : Nat) : Int)).size ≤ 9223372036854775807 := by omega
    have hi : ixB base (i + 1) = base ++ digB ((i + 1 : Nat) : Int) := by unfold ixB; rw [if_neg (by omega)]
    refine ⟨i + 1, by omega, by omega, ?_⟩
    rw [round_go, hi]
    simp only [go_sem, ↓reduceIte, hx', hc, c1, c2, c3])
  clear hL
  subst hE
  rw [loopW_go]
  have c1 := freshN_not (base := base) (taken := taken) (by omega)
  unfold takenB at c1
  simp only [go_sem, ↓reduceIte, hc, c1]
  rfl
end Go.Eng
/- The law of fresh names. -/
set_option maxRecDepth 100000
set_option linter.unusedVariables false
set_option linter.unusedSimpArgs false
namespace Go.Eng
open Go Go.Proofs
set_option maxHeartbeats 4000000 in
theorem showFresh_ev (base : ByteArray) (l : List ByteArray) (hb : base.size ≤ maxLen) (hl : l.length ≤ 8796093022208) (hs : ∀ x ∈ l, x.size ≤ maxLen) :
    evL Tryd.prog An 0 5 [.c (.v (.string base)), .c (.sl (l.map cS))] [] = some (.c (.v (.bool true)), []) := by
  refine evL_by (n := 55) (by kernel_rfl) rfl fn5 rfl rfl rfl rfl ?_
  have ha := fun fr => alive_ev fr 0 (.inl rfl)
  by_cases h1 : 100 < base.size
  · have c1 : decide ((base.size : Int) > 100) = true := dec_t (by omega)
    simp only [go_sem, ↓reduceIte, c1, ha]
  have c1 : decide ((base.size : Int) > 100) = false := dec_f (by omega)
  by_cases h2 : 60 < l.length
  · have c2 : decide ((l.length : Int) > 60) = true := dec_t (by omega)
    simp only [go_sem, ↓reduceIte, c1, c2, ha]
  have c2 : decide ((l.length : Int) > 60) = false := dec_f (by omega)
  simp only [go_sem, ↓reduceIte, c1, c2]
  generalize hL : loopW _ _ = L
  obtain ⟨i, k1, hE, rfl⟩ := loopW_at hL (fun i : Nat => [(19, .c (.v (.int .i64 i)))]) (fun _ => [[]]) (fun i => i ≤ l.length) (fun i => i = l.length ∨ ∃ x, l[i]? = some x ∧ 100 < x.size) (fun i => l.length - i) 0 rfl rfl (by omega) (by
    rintro i k1 hE
    simp only [not_or, not_exists, not_and, Nat.not_lt] at hE
    obtain ⟨e1, e2⟩ := hE
    obtain ⟨x, hx⟩ : ∃ x, l[i]? = some x := ⟨_, List.getElem?_eq_getElem (by omega)⟩
    have d1 : decide ((i : Int) < (l.length : Int)) = true := dec_t (by omega)
    have d2 : decide ((x.size : Int) > 100) = false := dec_f (by have := e2 x hx; omega)
    have d3 : IntKind.i64.wrap ((i : Int) + 1) = ((i + 1 : Nat) : Int) := wrap64 (by omega) (by omega)
    refine ⟨i + 1, by omega, by omega, ?_⟩
    rw [round_go]
    simp only [go_sem, ↓reduceIte, d1, d2, d3, hx])
  clear hL
  rw [loopW_go]
  rcases hE with rfl | ⟨x, hx, h3⟩
  · have d1 : decide ((l.length : Int) < (l.length : Int)) = false := dec_f (by omega)
    have hf := fun ro m => fresh_ev base l (by omega) (by omega) ro m
    have hr := fun ro m => rfresh_ev base l (by omega) (by omega) ro m
    have hh := fun s ro m => has_ev l s (by rw [maxLen_eq]; omega) ro m
    have d2 := freshN_not (base := base) (taken := l) (by omega)
    unfold takenB at d2
    have d3 : ((freshB base l).toList == (freshB base l).toList) = true := beqS_self _
    rw [beqS_def] at d3
    cases d4 : l.any (isS base) with
    | true => simp only [go_sem, ↓reduceIte, d1, d3, d4, hf, hr, hh, ha, freshB, d2]
    | false =>
      have d5 : freshB base l = base := by
        have : freshN base l = 0 := by
          rcases Nat.eq_zero_or_pos (freshN base l) with h | h
          · exact h
          · have := freshN_before (base := base) (taken := l) (i := 0) h
            unfold takenB ixB at this
            rw [if_pos rfl, d4] at this
            cases this
        unfold freshB; rw [this]; rfl
      have d6 : beqS base base = true := beqS_self _
      unfold freshB at d5
      rw [d5] at d2
      simp only [go_sem, ↓reduceIte, d1, d3, d4, d6, hf, hr, hh, ha, freshB, d5]
  · have d1 : decide ((i : Int) < (l.length : Int)) = true := dec_t (by have := (List.getElem?_eq_some_iff.1 hx).1; omega)
    have d2 : decide ((x.size : Int) > 100) = true := dec_t (by omega)
    simp only [go_sem, ↓reduceIte, d1, d2, hx, ha]
end Go.Eng
