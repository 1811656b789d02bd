-- own work: an evaluator of the program's code, and what it answers
import Derived.Test.YtdmoipccmbimhaaGreatDoorAnZ
import Derived.Test.YtdmoipccmbimhaaGreatDoorZ6
/- Whole numbers of 64 bits: package num. -/
set_option maxRecDepth 100000
set_option linter.unusedVariables false
set_option linter.unusedSimpArgs false
namespace Go.Eng
open Go Go.Proofs
def okI (n : Int) : Prop := -9223372036854775808 ≤ n ∧ n ≤ 9223372036854775807
theorem okI_wf {n : Int} (h : (Lit.int .i64 n).wf = true) : okI n := by
  simp only [Lit.wf, Bool.and_eq_true, decide_eq_true_eq] at h
  have h1 : IntKind.i64.min = -9223372036854775808 := by decide
  have h2 : IntKind.i64.max = 9223372036854775807 := by decide
  unfold okI
  omega
theorem w64 (n : Int) : IntKind.i64.wrap n = (n + 9223372036854775808) % 18446744073709551616 - 9223372036854775808 := by
  simp only [IntKind.wrap, IntKind.bits, IntKind.signed, Bool.true_and, decide_eq_true_eq, Nat.reduceSub, Int.reducePow, ge_iff_le]
  split <;> omega
theorem wu64 (n : Int) : IntKind.u64.wrap n = n % 18446744073709551616 := IntKind.wrap_u64 n
/-- a number that fits -/
def numS (n : Int) : Int × Bool := if -9223372036854775808 ≤ n ∧ n ≤ 9223372036854775807 then (n, true) else (0, false)
def encNB (x : Int × Bool) : List V := [.c (.v (.int .i64 x.1)), .c (.v (.bool x.2))]
set_option maxHeartbeats 1000000 in
theorem told_num (n : Int) (b : Bool) (ro : Nat) (m : Mem) : evL Tryz.prog AnZ ro 134 [.c (.v (.int .i64 n)), .c (.v (.bool b))] m = some (.tup (encNB (if b = true then (n, true) else (0, false))), m) := by
  refine evL_by (n := 9) (by kernel_rfl) rfl fn134 rfl rfl rfl rfl ?_
  cases b <;> simp only [go_sem, ↓reduceIte, encNB, Bool.false_eq_true]
set_option maxHeartbeats 1000000 in
theorem number_ev (n : Int) (ro : Nat) (m : Mem) : evL Tryz.prog AnZ ro 87 [.c (.v (.int .i64 (numS n).1)), .c (.v (.bool (numS n).2))] m = some (.tup (encP (fitsV n)), m) := by
  refine evL_by (n := 9) (by kernel_rfl) rfl fn87 rfl rfl rfl rfl ?_
  unfold numS fitsV
  by_cases h : -9223372036854775808 ≤ n ∧ n ≤ 9223372036854775807
  · rw [if_pos h, if_pos h]; simp only [go_sem, ↓reduceIte, encP]
  · rw [if_neg h, if_neg h]; simp only [go_sem, ↓reduceIte, encP]
set_option maxHeartbeats 2000000 in
theorem add_ev (a b : Int) (ha : okI a) (hb : okI b) (ro : Nat) (m : Mem) : evL Tryz.prog AnZ ro 88 [.c (.v (.int .i64 a)), .c (.v (.int .i64 b))] m = some (.tup (encNB (numS (a + b))), m) := by
  refine evL_by (n := 20) (by kernel_rfl) rfl fn88 rfl rfl rfl rfl ?_
  have hn := w64 (a + b)
  have ht := fun n b ro m => told_num n b ro m
  unfold okI at ha hb
  generalize IntKind.i64.wrap (a + b) = n at hn
  have c0 : IntKind.i64.wrap (a + b) = (a + b + 9223372036854775808) % 18446744073709551616 - 9223372036854775808 := w64 _
  unfold numS
  by_cases hf : -9223372036854775808 ≤ a + b ∧ a + b ≤ 9223372036854775807
  · have e : IntKind.i64.wrap (a + b) = a + b := wrap64 hf.1 hf.2
    rw [if_pos hf]
    by_cases h1 : b > 0
    · have c1 : decide (b > 0) = true := dec_t h1
      have c2 : decide (a + b > a) = true := dec_t (by omega)
      simp only [go_sem, ↓reduceIte, e, c1, c2, ht, encNB]
    · have c1 : decide (b > 0) = false := dec_f h1
      have c2 : decide (a + b > a) = false := dec_f (by omega)
      simp only [go_sem, ↓reduceIte, e, c1, c2, ht, encNB]
  · rw [if_neg hf]
    by_cases h1 : b > 0
    · have c1 : decide (b > 0) = true := dec_t h1
      have c2 : decide (IntKind.i64.wrap (a + b) > a) = false := dec_f (by omega)
      have c3 : (false == true) = false := rfl
      simp only [go_sem, ↓reduceIte, c1, c2, c3, ht, encNB, Bool.false_eq_true]
    · have c1 : decide (b > 0) = false := dec_f h1
      have c2 : decide (IntKind.i64.wrap (a + b) > a) = true := dec_t (by omega)
      have c3 : (true == false) = false := rfl
      simp only [go_sem, ↓reduceIte, c1, c2, c3, ht, encNB, Bool.false_eq_true]
set_option maxHeartbeats 2000000 in
theorem sub_ev (a b : Int) (ha : okI a) (hb : okI b) (ro : Nat) (m : Mem) : evL Tryz.prog AnZ ro 89 [.c (.v (.int .i64 a)), .c (.v (.int .i64 b))] m = some (.tup (encNB (numS (a - b))), m) := by
  refine evL_by (n := 20) (by kernel_rfl) rfl fn89 rfl rfl rfl rfl ?_
  have ht := fun n b ro m => told_num n b ro m
  unfold okI at ha hb
  have c0 : IntKind.i64.wrap (a - b) = (a - b + 9223372036854775808) % 18446744073709551616 - 9223372036854775808 := w64 _
  unfold numS
  by_cases hf : -9223372036854775808 ≤ a - b ∧ a - b ≤ 9223372036854775807
  · have e : IntKind.i64.wrap (a - b) = a - b := wrap64 hf.1 hf.2
    rw [if_pos hf]
    by_cases h1 : b > 0
    · have c1 : decide (b > 0) = true := dec_t h1
      have c2 : decide (a - b < a) = true := dec_t (by omega)
      simp only [go_sem, ↓reduceIte, e, c1, c2, ht, encNB]
    · have c1 : decide (b > 0) = false := dec_f h1
      have c2 : decide (a - b < a) = false := dec_f (by omega)
      simp only [go_sem, ↓reduceIte, e, c1, c2, ht, encNB]
  · rw [if_neg hf]
    by_cases h1 : b > 0
    · have c1 : decide (b > 0) = true := dec_t h1
      have c2 : decide (IntKind.i64.wrap (a - b) < a) = false := dec_f (by omega)
      have c3 : (false == true) = false := rfl
      simp only [go_sem, ↓reduceIte, c1, c2, c3, ht, encNB, Bool.false_eq_true]
    · have c1 : decide (b > 0) = false := dec_f h1
      have c2 : decide (IntKind.i64.wrap (a - b) < a) = true := dec_t (by omega)
      have c3 : (true == false) = false := rfl
      simp only [go_sem, ↓reduceIte, c1, c2, c3, ht, encNB, Bool.false_eq_true]
set_option maxHeartbeats 1000000 in
theorem neg_ev (a : Int) (ha : okI a) (ro : Nat) (m : Mem) : evL Tryz.prog AnZ ro 90 [.c (.v (.int .i64 a))] m = some (.tup (encNB (numS (-a))), m) := by
  refine evL_by (n := 8) (by kernel_rfl) rfl fn90 rfl rfl rfl rfl ?_
  have h := fun ro m => sub_ev 0 a ⟨by decide, by decide⟩ ha ro m
  rw [Int.zero_sub] at h
  simp only [go_sem, ↓reduceIte, h, encNB]
/-- a number without its sign -/
def absI (a : Int) : Int := if a < 0 then -a else a
set_option maxHeartbeats 1000000 in
theorem nsize_ev (a : Int) (ha : okI a) (ro : Nat) (m : Mem) : evL Tryz.prog AnZ ro 136 [.c (.v (.int .i64 a))] m = some (.c (.v (.int .u64 (absI a))), m) := by
  refine evL_by (n := 10) (by kernel_rfl) rfl fn136 rfl rfl rfl rfl ?_
  unfold okI at ha
  unfold absI
  by_cases h : a < 0
  · have c1 : decide (a < 0) = true := dec_t h
    have c2 : IntKind.u64.wrap (0 - IntKind.u64.wrap a) = -a := by rw [wu64, wu64]; omega
    rw [if_pos h]
    simp only [go_sem, ↓reduceIte, c1, c2]
  · have c1 : decide (a < 0) = false := dec_f h
    have c2 : IntKind.u64.wrap a = a := by rw [wu64]; omega
    rw [if_neg h]
    simp only [go_sem, ↓reduceIte, c1, c2]
set_option maxHeartbeats 2000000 in
theorem signed_ev (p : Int) (below : Bool) (h0 : 0 ≤ p) (h1 : p < 18446744073709551616) (ro : Nat) (m : Mem) : evL Tryz.prog AnZ ro 137 [.c (.v (.int .u64 p)), .c (.v (.bool below))] m = some (.tup (encNB (numS (if below = true then -p else p))), m) := by
  refine evL_by (n := 22) (by kernel_rfl) rfl fn137 rfl rfl rfl rfl ?_
  have ht := fun n b ro m => told_num n b ro m
  unfold numS
  cases below with
  | true =>
    rw [if_pos rfl]
    by_cases hf : p ≤ 9223372036854775808
    · have c1 : decide (p ≤ 9223372036854775808) = true := dec_t hf
      have c2 : IntKind.i64.wrap (0 - IntKind.i64.wrap p) = -p := by rw [w64, w64]; omega
      rw [if_pos (by omega)]
      simp only [go_sem, ↓reduceIte, c1, c2, ht, encNB]
    · have c1 : decide (p ≤ 9223372036854775808) = false := dec_f hf
      rw [if_neg (by omega)]
      simp only [go_sem, ↓reduceIte, c1, ht, encNB, Bool.false_eq_true]
  | false =>
    simp only [Bool.false_eq_true, if_false]
    by_cases hf : p ≤ 9223372036854775807
    · have c1 : decide (p ≤ 9223372036854775807) = true := dec_t hf
      have c2 : IntKind.i64.wrap p = p := by rw [w64]; omega
      rw [if_pos (by omega)]
      simp only [go_sem, ↓reduceIte, c1, c2, ht, encNB]
    · have c1 : decide (p ≤ 9223372036854775807) = false := dec_f hf
      rw [if_neg (by omega)]
      simp only [go_sem, ↓reduceIte, c1, ht, encNB, Bool.false_eq_true]
theorem absI_mul (a b : Int) : a * b = if (!(decide (a < 0) == decide (b < 0))) = true then -(absI a * absI b) else absI a * absI b := by
  unfold absI
  by_cases ha : a < 0
  · by_cases hb : b < 0
    · rw [dec_t ha, dec_t hb, if_pos ha, if_pos hb, if_neg (by simp), Int.neg_mul_neg]
    · rw [dec_t ha, dec_f hb, if_pos ha, if_neg hb, if_pos (by decide), Int.neg_mul, Int.neg_neg]
  · by_cases hb : b < 0
    · rw [dec_f ha, dec_t hb, if_neg ha, if_pos hb, if_pos (by decide), Int.mul_neg, Int.neg_neg]
    · rw [dec_f ha, dec_f hb, if_neg ha, if_neg hb, if_neg (by simp)]
theorem mul64_ev (x y : Int) (hx : 0 ≤ x ∧ x < 18446744073709551616) (hy : 0 ≤ y ∧ y < 18446744073709551616) (ro : Nat) (m : Mem) : evL Tryz.prog AnZ ro 135 [.c (.v (.int .u64 x)), .c (.v (.int .u64 y))] m = some (.tup [.c (.v (.int .u64 (x * y / 18446744073709551616))), .c (.v (.int .u64 (x * y % 18446744073709551616)))], m) :=
  evL_ext (cs := [.v (.int .u64 x), .v (.int .u64 y)]) (q := mulQ) (by kernel_rfl) rfl (by simp only [mulQ]; rw [if_pos ⟨hx.1, hx.2, hy.1, hy.2⟩]) rfl
set_option maxHeartbeats 2000000 in
theorem mul_ev (a b : Int) (ha : okI a) (hb : okI b) (ro : Nat) (m : Mem) : evL Tryz.prog AnZ ro 91 [.c (.v (.int .i64 a)), .c (.v (.int .i64 b))] m = some (.tup (encNB (numS (a * b))), m) := by
  refine evL_by (n := 27) (by kernel_rfl) rfl fn91 rfl rfl rfl rfl ?_
  have h1 := fun ro m => nsize_ev a ha ro m
  have h2 := fun ro m => nsize_ev b hb ro m
  unfold okI at ha hb
  have ba : 0 ≤ absI a ∧ absI a ≤ 9223372036854775808 := by unfold absI; split <;> omega
  have bb : 0 ≤ absI b ∧ absI b ≤ 9223372036854775808 := by unfold absI; split <;> omega
  have h3 := fun ro m => mul64_ev (absI a) (absI b) ⟨ba.1, by omega⟩ ⟨bb.1, by omega⟩ ro m
  have hab := absI_mul a b
  have hp : 0 ≤ absI a * absI b := Int.mul_nonneg ba.1 bb.1
  generalize absI a * absI b = p at h3 hab hp
  rw [hab]
  by_cases hh : p / 18446744073709551616 > 0
  · have c1 : decide (p / 18446744073709551616 > 0) = true := dec_t hh
    have e : numS (if (!(decide (a < 0) == decide (b < 0))) = true then -p else p) = (0, false) := by
      unfold numS
      rw [if_neg]
      split <;> omega
    rw [e]
    simp only [go_sem, ↓reduceIte, h1, h2, h3, c1, encNB]
  · have c1 : decide (p / 18446744073709551616 > 0) = false := dec_f hh
    have e : p % 18446744073709551616 = p := by omega
    have h4 := fun b ro m => signed_ev p b hp (by omega) ro m
    rw [e] at h3
    simp only [go_sem, ↓reduceIte, h1, h2, h3, h4, c1, encNB]
end Go.Eng
/- Whole numbers of 64 bits: the reference, by 128 bits. -/
set_option maxRecDepth 100000
set_option linter.unusedVariables false
set_option linter.unusedSimpArgs false
namespace Go.Eng
open Go Go.Proofs
def hiI (v : Int) : Int := (v / 18446744073709551616 + 9223372036854775808) % 18446744073709551616 - 9223372036854775808
def loI (v : Int) : Int := v % 18446744073709551616
/-- a number of 128 bits -/
def encWd (v : Int) : C := .agg [.v (.int .i64 (hiI v)), .v (.int .u64 (loI v))]
def boxWd (v : Int) : Box := [.c (.v (.int .i64 (hiI v))), .c (.v (.int .u64 (loI v)))]
theorem encWd_cells {v : Int} : (encWd v).cells = [.v (.int .i64 (hiI v)), .v (.int .u64 (loI v))] := rfl
theorem encWd_fold {v : Int} : C.agg [.v (.int .i64 (hiI v)), .v (.int .u64 (loI v))] = encWd v := rfl
theorem encWd_agg {v : Int} : (encWd v).isAgg = true := rfl
attribute [go_sem] encWd_cells encWd_fold encWd_agg boxWd
set_option maxHeartbeats 1000000 in
theorem rof_ev (n : Int) (hn : okI n) (ro : Nat) (m : Mem) (hro : ro ≤ m.length) : evL Tryz.prog AnZ ro 140 [.c (.v (.int .i64 n))] m = some (.c (encWd n), m) := by
  refine evL_by (n := 11) (by kernel_rfl) rfl fn140 rfl rfl rfl rfl ?_
  unfold okI at hn
  have c2 : IntKind.u64.wrap n = loI n := wu64 n
  by_cases h : n < 0
  · have c1 : decide (n < 0) = true := dec_t h
    have c3 : hiI n = -1 := by unfold hiI; omega
    have e : encWd n = .agg [.v (.int .i64 (-1)), .v (.int .u64 (loI n))] := by rw [encWd, c3]
    rw [e]
    simp only [go_sem, ↓reduceIte, c1, c2, hro]
  · have c1 : decide (n < 0) = false := dec_f h
    have c3 : hiI n = 0 := by unfold hiI; omega
    have e : encWd n = .agg [.v (.int .i64 0), .v (.int .u64 (loI n))] := by rw [encWd, c3]
    rw [e]
    simp only [go_sem, ↓reduceIte, c1, c2, hro]
set_option maxHeartbeats 2000000 in
theorem rplus_ev (a b : Int) (ro : Nat) (m : Mem) (hro : ro ≤ m.length) : evL Tryz.prog AnZ ro 139 [.c (encWd a), .c (encWd b)] m = some (.c (encWd (a + b)), m) := by
  refine evL_by (n := 26) (by kernel_rfl) rfl fn139 rfl rfl rfl rfl ?_
  have c2 : IntKind.u64.wrap (loI a + loI b) = loI (a + b) := by rw [wu64]; unfold loI; omega
  by_cases h : loI (a + b) < loI a
  · have c1 : decide (loI (a + b) < loI a) = true := dec_t h
    have c3 : IntKind.i64.wrap (IntKind.i64.wrap (hiI a + hiI b) + 1) = hiI (a + b) := by rw [w64, w64]; unfold hiI; unfold loI at h; omega
    simp only [go_sem, ↓reduceIte, c1, c2, c3, hro]
  · have c1 : decide (loI (a + b) < loI a) = false := dec_f h
    have c3 : IntKind.i64.wrap (hiI a + hiI b) = hiI (a + b) := by rw [w64]; unfold hiI; unfold loI at h; omega
    simp only [go_sem, ↓reduceIte, c1, c2, c3, hro]
theorem xor_max (x : Int) (h0 : 0 ≤ x) (h1 : x < 18446744073709551616) : IntKind.u64.wrap (((BitVec.ofInt 64 (if IntKind.u64.signed = true then -1 else IntKind.u64.max)) ^^^ (BitVec.ofInt 64 x)).toNat : Int) = 18446744073709551615 - x := by
  have e1 : BitVec.ofInt 64 (if IntKind.u64.signed = true then -1 else IntKind.u64.max) = BitVec.allOnes 64 := by
    show BitVec.ofInt 64 18446744073709551615 = BitVec.allOnes 64
    decide
  have e2 : (BitVec.allOnes 64 ^^^ BitVec.ofInt 64 x) = ~~~ (BitVec.ofInt 64 x) := BitVec.allOnes_xor
  have e3 : (BitVec.ofInt 64 x).toNat = x.toNat := by rw [BitVec.toNat_ofInt]; omega
  rw [e1, e2, BitVec.toNat_not, e3, wu64]
  omega
set_option maxHeartbeats 2000000 in
theorem rminus_ev (a : Int) (ro : Nat) (m : Mem) (hro : ro ≤ m.length) : evL Tryz.prog AnZ ro 141 [.c (encWd a)] m = some (.c (encWd (-a)), m) := by
  have hro1 : ro ≤ m.length + 1 := by omega
  refine evL_by (n := 12) (by kernel_rfl) rfl fn141 rfl rfl rfl rfl ?_
  have h := fun ro m hro => rplus_ev (-1 - a) 1 ro m hro
  have e1 : -1 - a + 1 = -a := by omega
  rw [e1] at h
  have e2 : encWd 1 = .agg [.v (.int .i64 0), .v (.int .u64 1)] := by
    have k1 : hiI 1 = 0 := by decide
    have k2 : loI 1 = 1 := by decide
    rw [encWd, k1, k2]
  rw [e2] at h
  have c1 : IntKind.i64.wrap (-1 - hiI a) = hiI (-1 - a) := by rw [w64]; unfold hiI; omega
  have c2 := xor_max (loI a) (by unfold loI; omega) (by unfold loI; omega)
  have c3 : 18446744073709551615 - loI a = loI (-1 - a) := by unfold loI; omega
  simp only [go_sem, ↓reduceIte, c1, hro, hro1]
  erw [c2, c3]
  simp only [go_sem, ↓reduceIte, h, hro, hro1]
set_option maxHeartbeats 2000000 in
theorem rfits_ev (v : Int) (h0 : -170141183460469231731687303715884105728 ≤ v) (h1 : v < 170141183460469231731687303715884105728) (ro : Nat) (m : Mem) : evL Tryz.prog AnZ ro 138 [.c (encWd v)] m = some (.tup (encNB (numS v)), m) := by
  refine evL_by (n := 25) (by kernel_rfl) rfl fn138 rfl rfl rfl rfl ?_
  have hn := w64 (loI v)
  have hh : hiI v = v / 18446744073709551616 := by unfold hiI; omega
  unfold loI at hn
  unfold numS
  by_cases hf : -9223372036854775808 ≤ v ∧ v ≤ 9223372036854775807
  · have e : IntKind.i64.wrap (loI v) = v := by unfold loI; rw [hn]; omega
    rw [if_pos hf]
    by_cases hs : 0 ≤ v
    · have c1 : (hiI v == 0) = true := beq_t (by omega)
      have c2 : decide (v ≥ 0) = true := dec_t hs
      simp only [go_sem, ↓reduceIte, e, c1, c2, encNB]
    · have c1 : (hiI v == 0) = false := beq_f (by omega)
      have c2 : (hiI v == -1) = true := beq_t (by omega)
      have c3 : decide (v < 0) = true := dec_t (by omega)
      simp only [go_sem, ↓reduceIte, e, c1, c2, c3, encNB]
  · rw [if_neg hf]
    generalize hN : IntKind.i64.wrap (loI v) = n
    have hn' : n = (v % 18446744073709551616 + 9223372036854775808) % 18446744073709551616 - 9223372036854775808 := by rw [← hN]; unfold loI; exact hn
    by_cases k1 : hiI v = 0
    · have c1 : (hiI v == 0) = true := beq_t k1
      have c2 : decide (n ≥ 0) = false := dec_f (by omega)
      have c3 : (hiI v == -1) = false := beq_f (by omega)
      simp only [go_sem, ↓reduceIte, hN, c1, c2, c3, encNB]
    · have c1 : (hiI v == 0) = false := beq_f k1
      by_cases k2 : hiI v = -1
      · have c2 : (hiI v == -1) = true := beq_t k2
        have c3 : decide (n < 0) = false := dec_f (by omega)
        simp only [go_sem, ↓reduceIte, hN, c1, c2, c3, encNB]
      · have c2 : (hiI v == -1) = false := beq_f k2
        simp only [go_sem, ↓reduceIte, hN, c1, c2, encNB]
set_option maxHeartbeats 1000000 in
theorem radd_ev (a b : Int) (ha : okI a) (hb : okI b) (ro : Nat) (m : Mem) (hro : ro ≤ m.length) : evL Tryz.prog AnZ ro 94 [.c (.v (.int .i64 a)), .c (.v (.int .i64 b))] m = some (.tup (encNB (numS (a + b))), m) := by
  have hro1 : ro ≤ m.length + 1 := by omega
  have h1 := fun ro m hro => rof_ev a ha ro m hro
  have h2 := fun ro m hro => rof_ev b hb ro m hro
  have h3 := fun ro m hro => rplus_ev a b ro m hro
  unfold okI at ha hb
  have h4 := fun ro m => rfits_ev (a + b) (by omega) (by omega) ro m
  refine evL_by (n := 14) (by kernel_rfl) rfl fn94 rfl rfl rfl rfl ?_
  simp only [go_sem, ↓reduceIte, h1, h2, h3, h4, hro, hro1, encNB]
set_option maxHeartbeats 1000000 in
theorem rsub_ev (a b : Int) (ha : okI a) (hb : okI b) (ro : Nat) (m : Mem) (hro : ro ≤ m.length) : evL Tryz.prog AnZ ro 95 [.c (.v (.int .i64 a)), .c (.v (.int .i64 b))] m = some (.tup (encNB (numS (a - b))), m) := by
  have hro1 : ro ≤ m.length + 1 := by omega
  have h1 := fun ro m hro => rof_ev a ha ro m hro
  have h2 := fun ro m hro => rof_ev b hb ro m hro
  have h5 := fun ro m hro => rminus_ev b ro m hro
  have h3 := fun ro m hro => rplus_ev a (-b) ro m hro
  unfold okI at ha hb
  have e : a + -b = a - b := by omega
  rw [e] at h3
  have h4 := fun ro m => rfits_ev (a - b) (by omega) (by omega) ro m
  refine evL_by (n := 15) (by kernel_rfl) rfl fn95 rfl rfl rfl rfl ?_
  simp only [go_sem, ↓reduceIte, h1, h2, h3, h4, h5, hro, hro1, encNB]
set_option maxHeartbeats 1000000 in
theorem rneg_ev (a : Int) (ha : okI a) (ro : Nat) (m : Mem) (hro : ro ≤ m.length) : evL Tryz.prog AnZ ro 96 [.c (.v (.int .i64 a))] m = some (.tup (encNB (numS (-a))), m) := by
  have hro1 : ro ≤ m.length + 1 := by omega
  have h1 := fun ro m hro => rof_ev a ha ro m hro
  have h5 := fun ro m hro => rminus_ev a ro m hro
  unfold okI at ha
  have h4 := fun ro m => rfits_ev (-a) (by omega) (by omega) ro m
  refine evL_by (n := 10) (by kernel_rfl) rfl fn96 rfl rfl rfl rfl ?_
  simp only [go_sem, ↓reduceIte, h1, h4, h5, hro, hro1, encNB]
set_option maxHeartbeats 1000000 in
theorem rfar_ev (a : Int) (ha : okI a) (ro : Nat) (m : Mem) : evL Tryz.prog AnZ ro 165 [.c (.v (.int .i64 a))] m = some (.c (.v (.int .u64 (absI a))), m) := by
  refine evL_by (n := 10) (by kernel_rfl) rfl fn165 rfl rfl rfl rfl ?_
  unfold okI at ha
  unfold absI
  by_cases h : a < 0
  · have c1 : decide (a < 0) = true := dec_t h
    have c2 : IntKind.u64.wrap (0 - IntKind.u64.wrap a) = -a := by rw [wu64, wu64]; omega
    rw [if_pos h]
    simp only [go_sem, ↓reduceIte, c1, c2]
  · have c1 : decide (a < 0) = false := dec_f h
    have c2 : IntKind.u64.wrap a = a := by rw [wu64]; omega
    rw [if_neg h]
    simp only [go_sem, ↓reduceIte, c1, c2]
theorem absI_half {u : Int} (h : 0 < u) : u = 2 * (u / 2) + u % 2 := by omega
set_option maxHeartbeats 4000000 in
theorem rtimes_ev (a b : Int) (ha : okI a) (hb : okI b) (ro : Nat) (m : Mem) (hro : ro ≤ m.length) : evL Tryz.prog AnZ ro 142 [.c (.v (.int .i64 a)), .c (.v (.int .i64 b))] m = some (.c (encWd (a * b)), m) := by
  have hro1 : ro ≤ m.length + 1 := by omega
  have h1 := fun ro m hro => rof_ev a ha ro m hro
  have h2 := fun ro m => rfar_ev b hb ro m
  have h3 := fun v ro m hro => rminus_ev v ro m hro
  have h4 := fun x y ro m hro => rplus_ev x y ro m hro
  unfold okI at ha hb
  have bb : 0 ≤ absI b ∧ absI b ≤ 9223372036854775808 := by unfold absI; split <;> omega
  have hab : a * b = (if b < 0 then -a else a) * absI b := by
    unfold absI
    by_cases hb : b < 0
    · rw [if_pos hb, if_pos hb, Int.neg_mul_neg]
    · rw [if_neg hb, if_neg hb]
  refine evL_by (n := 31) (by kernel_rfl) rfl fn142 rfl rfl rfl rfl ?_
  rw [hab]
  generalize hu0 : absI b = u0 at bb h2 ⊢
  have step : ∀ (x o u : Int), 0 ≤ u → u ≤ 9223372036854775808 → ¬ u = 0 → (decide (u > 0) = true ∧ u.tmod 2 = u % 2 ∧ IntKind.u64.wrap (u.tdiv 2) = u / 2 ∧ 0 ≤ u / 2 ∧ u / 2 ≤ 9223372036854775808 ∧ (u / 2).toNat < u.toNat ∧ (u % 2 = 1 → o + x + (x + x) * (u / 2) = o + x * u) ∧ (¬ u % 2 = 1 → o + (x + x) * (u / 2) = o + x * u)) := by
    intro x o u h0 h1 h2
    have e1 : u.tdiv 2 = u / 2 := Int.tdiv_eq_ediv_of_nonneg h0
    refine ⟨dec_t (by omega), Int.tmod_eq_emod_of_nonneg h0, by rw [e1, wu64]; omega, by omega, by omega, by omega, fun h => ?_, fun h => ?_⟩
    · have hu : u = u / 2 + u / 2 + 1 := by omega
      have : x * u = x * (u / 2 + u / 2 + 1) := by rw [← hu]
      rw [this, Int.mul_add, Int.mul_add, Int.mul_one, Int.add_mul]
      omega
    · have hu : u = u / 2 + u / 2 := by omega
      have : x * u = x * (u / 2 + u / 2) := by rw [← hu]
      rw [this, Int.mul_add, Int.add_mul]
  have cz : decide ((0 : Int) > 0) = false := rfl
  have c20 : ((2 : Int) = 0) = False := by simp
  by_cases hb0 : b < 0
  · have c1 : decide (b < 0) = true := dec_t hb0
    rw [if_pos hb0]
    simp only [go_sem, ↓reduceIte, c1, h1, h2, h3, hro, hro1]
    generalize hL : loopW _ _ = L
    obtain ⟨⟨x, o, u⟩, ⟨k1, k2, k3⟩, hE, rfl⟩ := loopW_at hL (fun (q : Int × Int × Int) => [(7, .c (.v (.int .u64 q.2.2)))]) (fun q => [(4, boxWd 0), (5, boxWd q.1), (6, boxWd q.2.1)] :: m)
      (fun q => 0 ≤ q.2.2 ∧ q.2.2 ≤ 9223372036854775808 ∧ q.2.1 + q.1 * q.2.2 = -a * u0) (fun q => q.2.2 = 0) (fun q => q.2.2.toNat) (-a, 0, u0) rfl rfl ⟨bb.1, bb.2, by simp⟩ (by
      rintro ⟨x, o, u⟩ ⟨k1, k2, k3⟩ hE
      dsimp only at k1 k2 k3 hE
      obtain ⟨s1, s2, s3, s4, s5, s6, s7, s8⟩ := step x o u k1 k2 hE
      by_cases hod : u % 2 = 1
      · have c3 : (u % 2 == 1) = true := beq_t hod
        refine ⟨(x + x, o + x, u / 2), ⟨s4, s5, (s7 hod).trans k3⟩, s6, ?_⟩
        rw [round_go]
        simp only [go_sem, ↓reduceIte, s1, s2, s3, c3, c20, h4, hro, hro1]
      · have c3 : (u % 2 == 1) = false := beq_f hod
        refine ⟨(x + x, o, u / 2), ⟨s4, s5, (s8 hod).trans k3⟩, s6, ?_⟩
        rw [round_go]
        simp only [go_sem, ↓reduceIte, s1, s2, s3, c3, c20, h4, hro, hro1])
    clear hL
    dsimp only at k1 k2 k3 hE
    subst hE
    have ko : o = -a * u0 := by simpa using k3
    rw [loopW_go, ← ko]
    simp only [go_sem, ↓reduceIte, cz, hro, hro1]
  · have c1 : decide (b < 0) = false := dec_f hb0
    rw [if_neg hb0]
    simp only [go_sem, ↓reduceIte, c1, h1, h2, h3, hro, hro1]
    generalize hL : loopW _ _ = L
    obtain ⟨⟨x, o, u⟩, ⟨k1, k2, k3⟩, hE, rfl⟩ := loopW_at hL (fun (q : Int × Int × Int) => [(7, .c (.v (.int .u64 q.2.2)))]) (fun q => [(4, boxWd 0), (5, boxWd q.1), (6, boxWd q.2.1)] :: m)
      (fun q => 0 ≤ q.2.2 ∧ q.2.2 ≤ 9223372036854775808 ∧ q.2.1 + q.1 * q.2.2 = a * u0) (fun q => q.2.2 = 0) (fun q => q.2.2.toNat) (a, 0, u0) rfl rfl ⟨bb.1, bb.2, by simp⟩ (by
      rintro ⟨x, o, u⟩ ⟨k1, k2, k3⟩ hE
      dsimp only at k1 k2 k3 hE
      obtain ⟨s1, s2, s3, s4, s5, s6, s7, s8⟩ := step x o u k1 k2 hE
      by_cases hod : u % 2 = 1
      · have c3 : (u % 2 == 1) = true := beq_t hod
        refine ⟨(x + x, o + x, u / 2), ⟨s4, s5, (s7 hod).trans k3⟩, s6, ?_⟩
        rw [round_go]
        simp only [go_sem, ↓reduceIte, s1, s2, s3, c3, c20, h4, hro, hro1]
      · have c3 : (u % 2 == 1) = false := beq_f hod
        refine ⟨(x + x, o, u / 2), ⟨s4, s5, (s8 hod).trans k3⟩, s6, ?_⟩
        rw [round_go]
        simp only [go_sem, ↓reduceIte, s1, s2, s3, c3, c20, h4, hro, hro1])
    clear hL
    dsimp only at k1 k2 k3 hE
    subst hE
    have ko : o = a * u0 := by simpa using k3
    rw [loopW_go, ← ko]
    simp only [go_sem, ↓reduceIte, cz, hro, hro1]
theorem mul_bd {a b : Int} (ha : okI a) (hb : okI b) : -170141183460469231731687303715884105728 ≤ a * b ∧ a * b < 170141183460469231731687303715884105728 := by
  unfold okI at ha hb
  have ba : 0 ≤ absI a ∧ absI a ≤ 9223372036854775808 := by unfold absI; split <;> omega
  have bb : 0 ≤ absI b ∧ absI b ≤ 9223372036854775808 := by unfold absI; split <;> omega
  have h1 : absI a * absI b ≤ 9223372036854775808 * 9223372036854775808 := Int.mul_le_mul ba.2 bb.2 bb.1 (by omega)
  have h2 : 0 ≤ absI a * absI b := Int.mul_nonneg ba.1 bb.1
  rw [absI_mul a b]
  split <;> omega
set_option maxHeartbeats 1000000 in
theorem rmul_ev (a b : Int) (ha : okI a) (hb : okI b) (ro : Nat) (m : Mem) (hro : ro ≤ m.length) : evL Tryz.prog AnZ ro 97 [.c (.v (.int .i64 a)), .c (.v (.int .i64 b))] m = some (.tup (encNB (numS (a * b))), m) := by
  have hro1 : ro ≤ m.length + 1 := by omega
  have h1 := fun ro m hro => rtimes_ev a b ha hb ro m hro
  have hbd := mul_bd ha hb
  have h2 := fun ro m => rfits_ev (a * b) hbd.1 hbd.2 ro m
  refine evL_by (n := 12) (by kernel_rfl) rfl fn97 rfl rfl rfl rfl ?_
  simp only [go_sem, ↓reduceIte, h1, h2, hro, hro1, encNB]
end Go.Eng
