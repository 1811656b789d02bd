-- own work: an evaluator of the program's code, and what it answers
import Derived.Test.YtjmbdejejlcklaaDoorW11
import Derived.Test.YtjmbdejejlcklaaDoorW12A

set_option maxRecDepth 100000
set_option linter.unusedVariables false
set_option linter.unusedSimpArgs false
namespace Go.Eng
open Go Go.Proofs
/-! ### claims within one another -/
def deepC (wide : Bool) : Nat → Cl
  | 0 => .mk 1 noS noS [] []
  | k + 1 => .mk (if wide then 7 else 6) noS noS [] (if wide then [deepC wide k, deepC wide k] else [deepC wide k])
theorem deepC_dep (w : Bool) (k : Nat) : depC (deepC w k) = k + 1 := by
  induction k with
  | zero => rfl
  | succ k ih => rw [deepC, depC_eq]; cases w <;> simp [Cl.ss, depCs, ih]
theorem sizeC_eq (c : Cl) : sizeC c = 1 + (sizeTs c.ts + sizeCs c.ss) := by cases c; rw [sizeC]; rfl
theorem deepC_size (k : Nat) : sizeC (deepC false k) = k + 1 := by
  induction k with
  | zero => rfl
  | succ k ih => rw [deepC, sizeC_eq]; simp [Cl.ss, Cl.ts, sizeTs, sizeCs, ih]; omega
theorem deepC_size2 (k : Nat) : sizeC (deepC true k) + 1 = 2 ^ (k + 1) := by
  induction k with
  | zero => rfl
  | succ k ih => rw [deepC, sizeC_eq]; simp [Cl.ss, Cl.ts, sizeTs, sizeCs]; rw [Nat.pow_succ]; omega
theorem cpart1 : ∀ l, cpartE (.mk 7 noS noS [] [l, l]) = 0 := fun l => by kernel_rfl
theorem deepC_first (w : Bool) (k : Nat) : firstC (deepC w k) = 0 := by
  induction k with
  | zero => kernel_rfl
  | succ k ih =>
    rw [deepC, firstC_eq]
    cases w with
    | true =>
      have : cpartE (.mk 7 noS noS [] [deepC true k, deepC true k]) = 0 := by kernel_rfl
      simp [this, Cl.ts, Cl.ss, rightTs, firstCs_cons, ih, firstCs]
    | false =>
      have : cpartE (.mk 6 noS noS [] [deepC false k]) = 0 := by kernel_rfl
      simp [this, Cl.ts, Cl.ss, rightTs, firstCs_cons, ih, firstCs]
theorem deepC_ok (w : Bool) (k : Nat) : okC (deepC w k) := by
  induction k with
  | zero =>
    have e : deepC w 0 = .mk 1 noS noS [] [] := rfl
    rw [e]
    exact .mk _ (by decide) (by decide) (by decide) (by decide) (by decide) (fun x hx => by simp [Cl.ts] at hx) (fun x hx => by simp [Cl.ss] at hx)
  | succ k ih =>
    cases w with
    | true => exact .mk _ (by simp [deepC, Cl.ts]) (by simp [deepC, Cl.ss, maxLen_eq]) (by simp [deepC, Cl.op]; decide) (by simp [deepC, Cl.nm]; decide) (by simp [deepC, Cl.so]; decide) (fun x hx => by simp [deepC, Cl.ts] at hx) (fun x hx => by simp [deepC, Cl.ss] at hx; rw [hx]; exact ih)
    | false => exact .mk _ (by simp [deepC, Cl.ts]) (by simp [deepC, Cl.ss, maxLen_eq]) (by simp [deepC, Cl.op]; decide) (by simp [deepC, Cl.nm]; decide) (by simp [deepC, Cl.so]; decide) (fun x hx => by simp [deepC, Cl.ts] at hx) (fun x hx => by simp [deepC, Cl.ss] at hx; rw [hx]; exact ih)
theorem deepC_claim (w : Bool) (s : Sg) (vs : List Va) (bs : List ByteArray) (k : Nat) : ∀ way, claimW s vs bs way (deepC w k) = ([], 0) := by
  induction k with
  | zero => intro way; rw [claimW_eq]; simp [deepC, Cl.ts, Cl.ss, Cl.op, allW, bindB, claimsW_nil, lastW]
  | succ k ih =>
    intro way
    rw [claimW_eq]
    cases w <;> simp [deepC, Cl.ts, Cl.ss, Cl.op, allW, bindB, claimsW_nil, claimsW_cons, lastW, bindsW, ih]
def s0 : Sg := ⟨[], []⟩
theorem deep_narrow (k : Nat) (hk : k ≤ 100) : wellC s0 [] (deepC false k) = if 64 < k + 1 then ([], 6) else ([], 0) := by
  unfold wellC rightC
  rw [deepC_dep, deepC_size, deepC_first, deepC_claim]
  by_cases h : 64 < k + 1
  · simp [h]
  · have : ¬ 4096 < k + 1 := by omega
    simp [h, this]
theorem deep_wide : wellC s0 [] (deepC true 11) = ([], 0) := by
  unfold wellC rightC
  have := deepC_size2 11
  have h : ¬ 4096 < sizeC (deepC true 11) := by omega
  rw [deepC_dep, deepC_first, deepC_claim]
  simp [h]
theorem deep_long : wellC s0 [] (deepC true 12) = ([], 2) := by
  unfold wellC rightC
  have := deepC_size2 12
  have h : 4096 < sizeC (deepC true 12) := by omega
  rw [deepC_dep]
  simp [h]
def boxD (c : Cl) : Mem → Mem := fun m => [(5, [.c (.v (.int .i64 c.op)), .c (.v (.string c.nm)), .c (.v (.string c.so)), .c (.sl (c.ts.map encT)), .c (.sl (c.ss.map encC))])] :: m
attribute [go_sem] boxD
set_option maxHeartbeats 8000000 in
theorem deep_ev (d : Nat) (hd : d < 256) (wide : Bool) (ro : Nat) (m : Mem) (hro : ro ≤ m.length) : evL Tryd.prog An ro 6 [.c (.v (.int .u8 d)), .c (.v (.bool wide))] m = some (.c (.v (.bool true)), m) := by
  have hro1 : ro ≤ m.length + 1 := by omega
  have h19 := fun (w : Bool) (k : Nat) (ro : Nat) (m : Mem) (hro : ro ≤ m.length) => f19_ev s0 [] (deepC w k) (by decide) (by decide) (by decide) (deepC_ok w k) ro m hro
  have hg := fun ro m hro => goes_ev ro m hro
  have w1 : IntKind.i64.wrap (d : Int) = d := wrap64 (by omega) (by omega)
  have w2 : (d : Int).tmod 10 = ((d % 10 : Nat) : Int) := by rw [Int.tmod_eq_emod_of_nonneg (by omega)]; omega
  have w3 : IntKind.i64.wrap (60 + ((d % 10 : Nat) : Int)) = ((60 + d % 10 : Nat) : Int) := (wrap64 (by omega) (by omega)).trans (by omega)
  have hm : d % 10 < 10 := Nat.mod_lt _ (by omega)
  have t10 : ((10 : Int) = 0) = False := by simp
  refine evL_by (n := 86) (by kernel_rfl) rfl fn6 rfl rfl rfl rfl ?_
  have e0 : encS s0 = .agg [.sl [], .sl []] := rfl
  rw [e0] at h19
  simp only [List.map_nil] at h19
  cases wide with
  | true =>
    simp only [go_sem, ↓reduceIte, w1, w2, w3, t10, hro, hro1]
    generalize hL : loopW _ _ = L
    obtain ⟨k, k1, hE, rfl⟩ := loopW_at hL (fun k : Nat => [(7, .c (.v (.int .i64 ((k + 1 : Nat) : Int))))]) (fun k => boxD (deepC true k) m) (fun k => k ≤ 11) (fun k => k = 11) (fun k => 11 - k) 0 rfl rfl (by omega) (by
      rintro k k1 hE
      have c1 : decide (((k + 1 : Nat) : Int) < 12) = true := dec_t (by omega)
      have c3 : IntKind.i64.wrap (((k + 1 : Nat) : Int) + 1) = ((k + 1 + 1 : Nat) : Int) := wrap64 (by omega) (by omega)
      have b1 : (deepC true (k + 1)).op = 7 := rfl
      have b2 : (deepC true (k + 1)).nm = ByteArray.empty := rfl
      have b3 : (deepC true (k + 1)).so = ByteArray.empty := rfl
      have b4 : (deepC true (k + 1)).ts = [] := rfl
      have b5 : (deepC true (k + 1)).ss = [deepC true k, deepC true k] := rfl
      refine ⟨k + 1, by omega, by omega, ?_⟩
      rw [round_go]
      simp only [go_sem, ↓reduceIte, c1, c3, b1, b2, b3, b4, b5, hro, hro1])
    clear hL
    subst hE
    rw [loopW_go]
    have a1 := h19 true 11
    have a2 := h19 true 12
    rw [deep_wide] at a1
    rw [deep_long] at a2
    have e12 : encC (deepC true 12) = .agg [.v (.int .i64 7), .v (.string ByteArray.empty), .v (.string ByteArray.empty), .sl [], .sl [encC (deepC true 11), encC (deepC true 11)]] := by
      rw [encC_eq]; rfl
    rw [e12] at a2
    have c0 : decide (((11 + 1 : Nat) : Int) < 12) = false := by decide
    simp only [go_sem, ↓reduceIte, c0, a1, a2, hg, encA2, hro, hro1, Int.cast_ofNat_Int, Int.reduceBEq, Int.reduceLT]
  | false =>
    simp only [go_sem, ↓reduceIte, w1, w2, w3, t10, hro, hro1]
    have hq : 60 + d % 10 < 70 := by omega
    have hq2 : 60 ≤ 60 + d % 10 := by omega
    generalize 60 + d % 10 = q at hq hq2 ⊢
    generalize hL : loopW _ _ = L
    obtain ⟨k, k1, hE, rfl⟩ := loopW_at hL (fun k : Nat => [(7, .c (.v (.int .i64 ((k + 1 : Nat) : Int))))]) (fun k => boxD (deepC false k) m) (fun k => k + 1 ≤ q) (fun k => k + 1 = q) (fun k => q - k) 0 rfl rfl (by omega) (by
      rintro k k1 hE
      have c1 : decide (((k + 1 : Nat) : Int) < (q : Int)) = true := dec_t (by omega)
      have c3 : IntKind.i64.wrap (((k + 1 : Nat) : Int) + 1) = ((k + 1 + 1 : Nat) : Int) := wrap64 (by omega) (by omega)
      have b1 : (deepC false (k + 1)).op = 6 := rfl
      have b2 : (deepC false (k + 1)).nm = ByteArray.empty := rfl
      have b3 : (deepC false (k + 1)).so = ByteArray.empty := rfl
      have b4 : (deepC false (k + 1)).ts = [] := rfl
      have b5 : (deepC false (k + 1)).ss = [deepC false k] := rfl
      refine ⟨k + 1, by omega, by omega, ?_⟩
      rw [round_go]
      simp only [go_sem, ↓reduceIte, c1, c3, b1, b2, b3, b4, b5, hro, hro1])
    clear hL
    subst hE
    rw [loopW_go]
    have a1 := h19 false k
    rw [deep_narrow k (by omega)] at a1
    have c0 : decide (((k + 1 : Nat) : Int) < ((k + 1 : Nat) : Int)) = false := dec_f (by omega)
    by_cases h : 64 < k + 1
    · rw [if_pos h] at a1
      have d1 : decide (((k + 1 : Nat) : Int) > 64) = true := dec_t (by omega)
      have d2 : decide (((k + 1 : Nat) : Int) ≤ 64) = false := dec_f (by omega)
      simp only [go_sem, ↓reduceIte, c0, d1, d2, a1, hg, encA2, hro, hro1, Int.cast_ofNat_Int, Int.reduceBEq]
    · rw [if_neg h] at a1
      have d1 : decide (((k + 1 : Nat) : Int) > 64) = false := dec_f (by omega)
      have d2 : decide (((k + 1 : Nat) : Int) ≤ 64) = true := dec_t (by omega)
      simp only [go_sem, ↓reduceIte, c0, d1, d2, a1, hg, encA2, hro, hro1, Int.cast_ofNat_Int, Int.reduceBEq]
end Go.Eng
