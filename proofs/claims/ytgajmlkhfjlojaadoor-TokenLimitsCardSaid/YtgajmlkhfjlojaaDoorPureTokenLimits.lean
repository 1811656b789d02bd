/-
  Proved: names of just 32 bytes are told, longer ones are not, nor are texts of more than 65536 bytes: for any number of letters up to 99, of blanks up to 131071.
-/
import Derived.Test.YtgajmlkhfjlojaaDoorPureToken2
import Derived.Test.YtgajmlkhfjlojaaDoorPrint3
import Derived.Test.YtgajmlkhfjlojaaDoorPrint13
namespace Go.Proofs.YtgajmlkhfjlojaaDoor.Pure
set_option linter.unusedVariables false
set_option linter.unusedSimpArgs false
open Go.RowKit Go.Proofs.YtgajmlkhfjlojaaDoor.Print Go.Proofs.YtgajmlkhfjlojaaDoor.Spec Go.Proofs.YtgajmlkhfjlojaaDoor.Aux Go.Proofs.YtgajmlkhfjlojaaDoorW.PrintWords Go.Proofs.YtgajmlkhfjlojaaDoorW.PrintLast Go.Proofs.YtgajmlkhfjlojaaDoorW.PrintMore

theorem runL_xs (n : Nat) : runL innerI (List.replicate n 120) = n := by
  induction n with
  | zero => rfl
  | succ n ih => rw [List.replicate_succ, runL_cons, if_pos (by decide), ih]
theorem blank_x (n : Nat) : blankG false (List.replicate n 120) = 0 := by
  cases n with
  | zero => rfl
  | succ n =>
    rw [List.replicate_succ, blankG]
    rw [if_neg (by decide), if_neg (by decide), if_neg (by decide)]
theorem blank_32 (n : Nat) (l : List UInt8) : blankG false (List.replicate n (32 : UInt8) ++ l) = n + blankG false l := by
  induction n with
  | zero => simp
  | succ n ih =>
    rw [List.replicate_succ, List.cons_append, blankG, if_neg (by decide), if_neg (by decide), if_pos (by decide), ih]
    omega
theorem sign_paren (t : List UInt8) : signS (40 :: 32 :: t) = (⟨#[40]⟩ : ByteArray) := by
  unfold signS signsB
  simp only [signGo, atL]
  simp [ByteArray.size, ByteArray.empty]
theorem ofS_name (n : Nat) (h1 : 1 ≤ n) (h2 : n ≤ 99) :
    ofS (⟨(40 :: 32 :: List.replicate n 120).toArray⟩ : ByteArray) = if n > 32 then ([], 2, 2) else ([⟨3, ⟨#[40]⟩, 0⟩, ⟨1, ⟨(List.replicate n 120).toArray⟩, 2⟩], 0, 0) := by
  unfold ofS
  rw [mk_size, if_neg (by simp; omega)]
  simp only [List.length_cons, List.length_replicate]
  have hb : blankG false (40 :: 32 :: List.replicate n 120) = 0 := by
    rw [blankG, if_neg (by decide), if_neg (by decide), if_neg (by decide)]
  have ht : ∀ p, tokS (b2i 40) (40 :: 32 :: List.replicate n 120) p = (3, (⟨#[40]⟩ : ByteArray), p, 0) := by
    intro p
    unfold tokS
    rw [sign_paren, if_neg (by decide), if_neg (by decide), if_neg (by decide)]
  rw [hb, List.drop_zero, ofGo, ht]
  have hs : (⟨#[40]⟩ : ByteArray).size = 1 := rfl
  have hb2 : blankG false (32 :: List.replicate n 120) = 1 := by
    have := blank_32 1 (List.replicate n 120)
    rw [blank_x] at this
    exact this
  rw [if_pos rfl]
  simp only [hs, List.drop_succ_cons, List.drop_zero, hb2, List.nil_append]
  obtain ⟨m, rfl⟩ : ∃ m, n = m + 1 := ⟨n - 1, by omega⟩
  rw [List.replicate_succ, ofGo]
  have ht2 : tokS (b2i 120) (120 :: List.replicate m 120) ((0 + (1 + 1) : Nat) : Int) = if m + 1 > 32 then (0, (⟨#[]⟩ : ByteArray), 0, 2) else (1, ⟨(List.replicate (m + 1) 120).toArray⟩, 2, 0) := by
    unfold tokS
    rw [if_pos (by decide), ← List.replicate_succ, runL_xs, List.take_of_length_le (by simp)]
    rfl
  by_cases h : m + 1 > 32
  · rw [if_pos h] at ht2 ⊢
    simp only [ht2]
    rfl
  · rw [if_neg h] at ht2 ⊢
    simp only [ht2]
    rw [if_pos trivial, mk_size, List.length_replicate, List.drop_of_length_le (by simp)]
    cases m <;> rfl
theorem ofS_blanks (m : Nat) (h : m ≤ 131072) :
    ofS (⟨(List.replicate m (32 : UInt8) ++ [121]).toArray⟩ : ByteArray) = if m ≥ 65536 then ([], 0, 2) else ([⟨1, ⟨#[121]⟩, m⟩], 0, 0) := by
  unfold ofS
  rw [mk_size]
  simp only [List.length_append, List.length_replicate, List.length_singleton]
  by_cases h2 : m ≥ 65536
  · rw [if_pos (by omega), if_pos h2]
  · rw [if_neg (by omega), if_neg h2]
    have hb : blankG false (List.replicate m (32 : UInt8) ++ [121]) = m := by
      rw [blank_32]
      rfl
    simp only [hb]
    rw [List.drop_append_of_le_length (by simp), List.drop_of_length_le (by simp), List.nil_append, ofGo]
    have ht : tokS (b2i 121) [121] (m : Int) = (1, (⟨#[121]⟩ : ByteArray), (m : Int), 0) := by
      unfold tokS
      rw [if_pos (by decide)]
      rfl
    rw [ht, if_pos rfl]
    cases m <;> rfl
theorem lim_l1 (m : Nat) (hm : m ≤ 131072) (x1 : Int) : ∀ (d i : Nat), i + d = m → Ev (fun k => sequiturlaw03_TokenLimits.l1 k (List.replicate i (32 : Int) ++ List.replicate d 0) m i) true
  | 0, i, h => by
    have hi : i = m := by omega
    subst hi
    have hso : strOfNums (List.replicate i (32 : Int) ++ List.replicate 0 0) = (⟨(List.replicate i (32 : UInt8)).toArray⟩ : ByteArray) := by
      simp [strOfNums]
    have hcat : (⟨(List.replicate i (32 : UInt8)).toArray⟩ : ByteArray) ++ (⟨#[121]⟩ : ByteArray) = (⟨(List.replicate i (32 : UInt8) ++ [121]).toArray⟩ : ByteArray) := by
      rw [← ba_data]; simp
    have hof := of_ev (⟨(List.replicate i (32 : UInt8) ++ [121]).toArray⟩ : ByteArray)
    rw [ofS_blanks i hm] at hof
    refine Ev.step (f := fun k => (token_Of.f k (⟨(List.replicate i (32 : UInt8) ++ [121]).toArray⟩ : ByteArray)).bind fun b => if (i : Int) ≥ 65536 then (if (b.1.length : Int) = 0 then (if b.2.1 = 0 then some (b.2.2 == 2) else none) else none) else (if (b.1.length : Int) = 1 then (if 0 < (b.1.length : Int) then (if (rd_T30 b.1 0).f2 = (i : Int) then some (b.2.2 == 0) else none) else none) else none)) (fun k => ?_) (Ev.bind hof ?_)
    · simp only [sequiturlaw03_TokenLimits.l1]
      rw [if_neg (by omega), hso, mk_size, List.length_replicate, if_pos (by omega), hcat]
      simp only [List.replicate_zero, List.append_nil, List.length_replicate]
    · by_cases h2 : i ≥ 65536
      · rw [if_pos h2]
        exact Ev.pos (by omega) (Ev.pos rfl (Ev.pos rfl (Ev.now _)))
      · rw [if_neg h2]
        exact Ev.neg (by omega) (Ev.pos rfl (Ev.pos (by simp) (Ev.pos (by simp [rd_T30]) (Ev.now _))))
  | d + 1, i, h => by
    have ih := lim_l1 m hm x1 d (i + 1) (by omega)
    refine Ev.step (fun k => ?_) ih
    simp only [sequiturlaw03_TokenLimits.l1]
    have hset : (List.replicate i (32 : Int) ++ List.replicate (d + 1) 0).set i 32 = List.replicate (i + 1) 32 ++ List.replicate d 0 := by
      rw [List.set_append_right _ _ (by simp), List.length_replicate, Nat.sub_self, List.replicate_succ, List.set_cons_zero, List.replicate_succ', List.append_assoc]
      rfl
    rw [if_pos (by omega), if_pos (by omega), if_pos (by simp; omega), Int.toNat_natCast, hset, wrap_succ i (by omega)]
theorem lim_j1 (x1 : Int) (h0 : 0 ≤ x1) : Ev (fun k => sequiturlaw03_TokenLimits.j1 k x1 false) true := by
  have hm : Int.tmod x1 131072 = (((x1 % 131072).toNat : Nat) : Int) := by rw [Int.tmod_eq_emod_of_nonneg h0]; omega
  generalize hn : (x1 % 131072).toNat = n at hm
  have hl := lim_l1 n (by omega) x1 n 0 (by omega)
  rw [List.replicate_zero, List.nil_append] at hl
  refine Ev.step (fun k => ?_) hl
  simp only [sequiturlaw03_TokenLimits.j1, Bool.false_eq_true, if_false]
  rw [hm, if_pos (by omega), if_pos (by omega), if_pos (by omega)]
  simp only [Option.bind_some, Int.toNat_natCast, List.length_replicate]
  rfl
theorem lim_l0 (x1 : Int) (hx : 0 ≤ x1) (n : Nat) (h1 : 1 ≤ n) (h2 : n ≤ 99) : ∀ (d i : Nat), i + d = n → Ev (fun k => sequiturlaw03_TokenLimits.l0 k x1 n (⟨(List.replicate i 120).toArray⟩ : ByteArray)) true
  | 0, i, h => by
    have hi : i = n := by omega
    subst hi
    have hcat : (⟨#[40, 32]⟩ : ByteArray) ++ (⟨(List.replicate i 120).toArray⟩ : ByteArray) = (⟨(40 :: 32 :: List.replicate i 120).toArray⟩ : ByteArray) := by
      rw [← ba_data]; simp
    have hof := of_ev (⟨(40 :: 32 :: List.replicate i 120).toArray⟩ : ByteArray)
    rw [ofS_name i h1 h2] at hof
    have hj := lim_j1 x1 hx
    have hsz := mk_size (List.replicate i 120)
    rw [List.length_replicate] at hsz
    refine Ev.step (f := fun k => (token_Of.f k (⟨(40 :: 32 :: List.replicate i 120).toArray⟩ : ByteArray)).bind fun b => if (i : Int) > 32 then (if (b.1.length : Int) = 0 then (if b.2.1 = 2 then (if b.2.2 = 2 then (if (i : Int) ≤ 32 then (if (b.1.length : Int) = 2 then (if b.2.1 = 0 then sequiturlaw03_TokenLimits.j1 k x1 (b.2.2 != 0) else sequiturlaw03_TokenLimits.j1 k x1 true) else sequiturlaw03_TokenLimits.j1 k x1 true) else sequiturlaw03_TokenLimits.j1 k x1 false) else sequiturlaw03_TokenLimits.j1 k x1 true) else sequiturlaw03_TokenLimits.j1 k x1 true) else sequiturlaw03_TokenLimits.j1 k x1 true) else (if (i : Int) ≤ 32 then (if (b.1.length : Int) = 2 then (if b.2.1 = 0 then sequiturlaw03_TokenLimits.j1 k x1 (b.2.2 != 0) else sequiturlaw03_TokenLimits.j1 k x1 true) else sequiturlaw03_TokenLimits.j1 k x1 true) else sequiturlaw03_TokenLimits.j1 k x1 false)) (fun k => ?_) (Ev.bind hof ?_)
    · simp only [sequiturlaw03_TokenLimits.l0]
      rw [if_neg (by omega), if_pos (by omega), hcat]
    · by_cases h3 : i > 32
      · rw [if_pos h3]
        exact Ev.pos (by omega) (Ev.pos rfl (Ev.pos rfl (Ev.pos rfl (Ev.neg (by omega) hj))))
      · rw [if_neg h3]
        exact Ev.neg (by omega) (Ev.pos (by omega) (Ev.pos rfl (Ev.pos rfl hj)))
  | d + 1, i, h => by
    have ih := lim_l0 x1 hx n h1 h2 d (i + 1) (by omega)
    have hcat : (⟨(List.replicate i 120).toArray⟩ : ByteArray) ++ (⟨#[120]⟩ : ByteArray) = (⟨(List.replicate (i + 1) 120).toArray⟩ : ByteArray) := by
      rw [← ba_data, List.replicate_succ']; simp
    have hsz := mk_size (List.replicate i 120)
    rw [List.length_replicate] at hsz
    refine Ev.step (fun k => ?_) ih
    simp only [sequiturlaw03_TokenLimits.l0]
    rw [if_pos (by omega), if_pos (by omega), hcat]
theorem TokenLimits : sequiturlaw03_TokenLimits.Pure := by
  intro a b ha hb
  have ha2 : 0 ≤ a ∧ a ≤ 255 := by
    simp [Lit.wf, IntKind.min, IntKind.max, IntKind.signed, IntKind.bits] at ha
    omega
  have hb2 : 0 ≤ b := by
    simp [Lit.wf, IntKind.min, IntKind.max, IntKind.signed, IntKind.bits] at hb
    omega
  refine Ev.rounds (g := fun k => sequiturlaw03_TokenLimits.f k a b) ?_
  unfold sequiturlaw03_TokenLimits.f
  refine Ev.bind alive_ev (Ev.pos rfl ?_)
  have hn : wrap64 (1 + (wrap64 (Int.tmod a 99))) = (((1 + a % 99).toNat : Nat) : Int) := by
    rw [Int.tmod_eq_emod_of_nonneg ha2.1, wrap_in (a % 99) (by omega) (by omega), wrap_in _ (by omega) (by omega)]; omega
  rw [hn]
  generalize hm : (1 + a % 99).toNat = n
  exact lim_l0 b hb2 n (by omega) (by omega) n 0 (by omega)
end Go.Proofs.YtgajmlkhfjlojaaDoor.Pure
