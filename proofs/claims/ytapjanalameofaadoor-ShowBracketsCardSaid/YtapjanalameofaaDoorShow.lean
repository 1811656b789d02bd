-- own work: an evaluator of the program's code, and what it answers
import Derived.Test.YtapjanalameofaaDoorEngC
import Derived.Lib.ItoaNum
import Derived.Lib.ItoaLen
import Derived.Lib.Join
/- What terms and claims look like: plain Lean. -/
set_option maxRecDepth 100000
set_option linter.unusedVariables false
set_option linter.unusedSimpArgs false
namespace Go.Eng
open Go
/-! ### texts of bytes -/
def mkS (l : List UInt8) : ByteArray := ⟨l.toArray⟩
theorem mkS_size (l : List UInt8) : (mkS l).size = l.length := by simp [mkS, ByteArray.size]
theorem mkS_list (l : List UInt8) : (mkS l).toList = l := by rw [Lib.toList_data]; rfl
theorem mkS_of (s : ByteArray) : mkS s.toList = s := by
  rw [Lib.toList_data]
  rfl
theorem mkS_append (l m : List UInt8) : mkS l ++ mkS m = mkS (l ++ m) := by
  apply ByteArray.ext
  rw [ByteArray.data_append]
  simp [mkS]
theorem mkS_inj {l m : List UInt8} (h : mkS l = mkS m) : l = m := by
  have := congrArg ByteArray.toList h
  rwa [mkS_list, mkS_list] at this
theorem cat_list (a b : ByteArray) : (a ++ b).toList = a.toList ++ b.toList := by
  rw [← mkS_of a, ← mkS_of b, mkS_append, mkS_list, mkS_list, mkS_list]
theorem cat_assoc (a b c : ByteArray) : (a ++ b) ++ c = a ++ (b ++ c) := by
  rw [← mkS_of a, ← mkS_of b, ← mkS_of c]
  simp only [mkS_append, List.append_assoc]
theorem cat_empty (a : ByteArray) : ByteArray.empty ++ a = a := by
  rw [← mkS_of a, show ByteArray.empty = mkS [] from rfl, mkS_append, List.nil_append]
theorem cat_size (a b : ByteArray) : (a ++ b).size = a.size + b.size := by
  rw [← mkS_of a, ← mkS_of b, mkS_append, mkS_size, mkS_size, mkS_size, List.length_append]
theorem list_size (a : ByteArray) : a.toList.length = a.size := by
  conv => rhs; rw [← mkS_of a]
  rw [mkS_size]
/-! ### digits -/
def digF : Nat → Nat → List UInt8
  | 0, _ => []
  | k + 1, u => if u < 10 then [UInt8.ofNat (48 + u)] else digF k (u / 10) ++ [UInt8.ofNat (48 + u % 10)]
theorem digF_eq : ∀ (k u : Nat), u < 10 ^ k → 0 < k → digF k u = Lib.decDigits u
  | 0, u, _, h => by omega
  | k + 1, u, h, _ => by
    rw [digF, Lib.decDigits]
    by_cases h1 : u < 10
    · rw [if_pos h1, dif_pos h1]
    · rw [if_neg h1, dif_neg h1]
      have hk : 0 < k := by
        rcases Nat.eq_zero_or_pos k with rfl | hk
        · simp at h; omega
        · exact hk
      rw [digF_eq k (u / 10) (by rw [Nat.pow_succ] at h; omega) hk]
def digB (n : Int) : ByteArray := mkS (if n < 0 then 45 :: digF 20 n.natAbs else digF 20 n.toNat)
theorem digB_eq (n : Int) (h0 : -9223372036854775808 ≤ n) (h1 : n ≤ 9223372036854775807) : digB n = ⟨(Lib.itoa n).toArray⟩ := by
  unfold digB Lib.itoa
  have e : (10 : Nat) ^ 20 = 100000000000000000000 := by decide
  split
  · rw [digF_eq 20 n.natAbs (by rw [e]; omega) (by decide)]; rfl
  · rw [digF_eq 20 n.toNat (by rw [e]; omega) (by decide)]; rfl
theorem digF_len : ∀ k u, (digF k u).length ≤ k
  | 0, u => by simp [digF]
  | k + 1, u => by
    rw [digF]
    split
    · simp
    · have := digF_len k (u / 10)
      simp only [List.length_append, List.length_cons, List.length_nil]
      omega
theorem digB_size (n : Int) : (digB n).size ≤ 21 := by
  unfold digB
  rw [mkS_size]
  split
  · have := digF_len 20 n.natAbs; simp only [List.length_cons]; omega
  · have := digF_len 20 n.toNat; omega
def valD (l : List UInt8) : Nat := l.foldl (fun a d => 10 * a + (d.toNat - 48)) 0
theorem valD_snoc (l : List UInt8) (d : UInt8) : valD (l ++ [d]) = 10 * valD l + (d.toNat - 48) := by
  unfold valD; rw [List.foldl_append]; rfl
theorem valD_dig : ∀ u : Nat, valD (Lib.decDigits u) = u := by
  intro u
  induction u using Nat.strongRecOn with
  | _ u ih =>
    rw [Lib.decDigits]
    split
    · have : (UInt8.ofNat (48 + u)).toNat = 48 + u := by rw [UInt8.toNat_ofNat']; omega
      show 10 * 0 + ((UInt8.ofNat (48 + u)).toNat - 48) = u
      omega
    · have : (UInt8.ofNat (48 + u % 10)).toNat = 48 + u % 10 := by rw [UInt8.toNat_ofNat']; omega
      rw [valD_snoc, ih _ (by omega), this]; omega
theorem dec_ne (u : Nat) : Lib.decDigits u ≠ [] := by
  rw [Lib.decDigits]
  split <;> simp
/-! ### a name that is not taken -/
def ixB (base : ByteArray) (n : Nat) : ByteArray := if n = 0 then base else base ++ digB n
theorem dig_nat {n : Nat} (h : n ≤ 9223372036854775807) : digB (n : Int) = mkS (Lib.decDigits n) := by
  rw [digB_eq _ (by omega) (by omega)]
  unfold Lib.itoa
  rw [if_neg (by omega)]
  rfl
theorem ixB_inj (base : ByteArray) {i j : Nat} (hi : i ≤ 9223372036854775807) (hj : j ≤ 9223372036854775807) (h : ixB base i = ixB base j) : i = j := by
  have e := congrArg ByteArray.toList h
  unfold ixB at e
  by_cases h1 : i = 0
  · by_cases h2 : j = 0
    · omega
    · rw [if_pos h1, if_neg h2, cat_list, dig_nat hj, mkS_list] at e
      have := congrArg List.length e
      simp only [List.length_append] at this
      exact absurd (List.length_eq_zero_iff.1 (by omega)) (dec_ne j)
  · by_cases h2 : j = 0
    · rw [if_neg h1, if_pos h2, cat_list, dig_nat hi, mkS_list] at e
      have := congrArg List.length e
      simp only [List.length_append] at this
      exact absurd (List.length_eq_zero_iff.1 (by omega)) (dec_ne i)
    · rw [if_neg h1, if_neg h2, cat_list, cat_list, dig_nat hi, dig_nat hj, mkS_list, mkS_list] at e
      have := List.append_cancel_left e
      rw [← valD_dig i, ← valD_dig j, this]
def takenB (taken : List ByteArray) (s : ByteArray) : Bool := taken.any (isS s)
theorem takenB_iff {taken : List ByteArray} {s : ByteArray} : takenB taken s = true ↔ s ∈ taken := by
  unfold takenB
  rw [List.any_eq_true]
  constructor
  · rintro ⟨x, hx, h⟩
    rw [← beqS_iff.1 h]; exact hx
  · intro h
    exact ⟨s, h, beqS_self s⟩
/-- the first number from one on, of which a name is not taken -/
def frN (base : ByteArray) (taken : List ByteArray) : Nat → Nat → Nat
  | 0, n => n
  | k + 1, n => if takenB taken (ixB base n) then frN base taken k (n + 1) else n
theorem holes {α : Type} [DecidableEq α] (f : Nat → α) : ∀ (k : Nat) (l : List α), (∀ i j, i < k → j < k → f i = f j → i = j) → (∀ i, i < k → f i ∈ l) → k ≤ l.length
  | 0, l, _, _ => Nat.zero_le _
  | k + 1, l, hi, hm => by
    have h1 := hm k (by omega)
    have := holes f k (l.erase (f k)) (fun i j a b => hi i j (by omega) (by omega)) (fun i a => by
      refine (List.mem_erase_of_ne (fun e => ?_)).2 (hm i (by omega))
      have := hi i k (by omega) (by omega) e
      omega)
    rw [List.length_erase_of_mem h1] at this
    have : 0 < l.length := List.length_pos_of_mem h1
    omega
theorem frN_spec (base : ByteArray) (taken : List ByteArray) : ∀ (k n : Nat), n ≤ frN base taken k n ∧ frN base taken k n ≤ n + k ∧ (∀ i, n ≤ i → i < frN base taken k n → takenB taken (ixB base i) = true) ∧ (frN base taken k n < n + k → takenB taken (ixB base (frN base taken k n)) = false)
  | 0, n => ⟨Nat.le_refl _, Nat.le_refl _, fun i h1 h2 => by simp only [frN] at h2; omega, fun h => by simp only [frN] at h; omega⟩
  | k + 1, n => by
    rw [frN]
    by_cases h : takenB taken (ixB base n) = true
    · rw [if_pos h]
      obtain ⟨h1, h2, h3, h4⟩ := frN_spec base taken k (n + 1)
      refine ⟨by omega, by omega, fun i a b => ?_, fun a => h4 (by omega)⟩
      by_cases e : i = n
      · rw [e]; exact h
      · exact h3 i (by omega) b
    · rw [if_neg h]
      exact ⟨Nat.le_refl _, by omega, fun i a b => by omega, fun _ => by simpa using h⟩
def freshN (base : ByteArray) (taken : List ByteArray) : Nat := frN base taken taken.length 0
def freshB (base : ByteArray) (taken : List ByteArray) : ByteArray := ixB base (freshN base taken)
theorem freshN_le (base : ByteArray) (taken : List ByteArray) : freshN base taken ≤ taken.length := by
  have := (frN_spec base taken taken.length 0).2.1
  unfold freshN; omega
theorem freshN_before {base : ByteArray} {taken : List ByteArray} {i : Nat} (h : i < freshN base taken) : takenB taken (ixB base i) = true := (frN_spec base taken taken.length 0).2.2.1 i (Nat.zero_le _) h
theorem freshN_not {base : ByteArray} {taken : List ByteArray} (hl : taken.length ≤ 9223372036854775807) : takenB taken (ixB base (freshN base taken)) = false := by
  obtain ⟨h1, h2, h3, h4⟩ := frN_spec base taken taken.length 0
  by_cases h : freshN base taken < taken.length
  · exact h4 (by unfold freshN at h; omega)
  · have he : freshN base taken = taken.length := by have := freshN_le base taken; omega
    cases hb : takenB taken (ixB base (freshN base taken)) with
    | false => rfl
    | true =>
      have := holes (ixB base) (taken.length + 1) taken (fun i j a b => ixB_inj base (by omega) (by omega)) (fun i a => by
        refine takenB_iff.1 ?_
        by_cases e : i = freshN base taken
        · rw [e]; exact hb
        · exact h3 i (Nat.zero_le _) (by show i < freshN base taken; omega))
      omega
theorem freshB_size (base : ByteArray) (taken : List ByteArray) : (freshB base taken).size ≤ base.size + 21 := by
  unfold freshB ixB
  split
  · omega
  · rw [cat_size]
    have := digB_size (freshN base taken)
    omega
/-! ### terms -/
def lowT (t : Tm) : Bool := t.op == 4 && decide (t.nu < 0)
def sumB (t : Tm) : Bool := t.op == 5 || t.op == 6
def sideX (t : Tm) (s : ByteArray) (br : Bool) : ByteArray := if (br || lowT t) = true then (⟨#[40]⟩ ++ s) ++ ⟨#[41]⟩ else s
def joinX : List ByteArray → ByteArray
  | [] => ByteArray.empty
  | x :: r => r.foldl (fun s y => (s ++ ⟨#[44, 32]⟩) ++ y) x
theorem joinX_one (y : ByteArray) : joinX [y] = y := rfl
theorem joinX_snoc {l : List ByteArray} (y : ByteArray) (h : l ≠ []) : joinX (l ++ [y]) = (joinX l ++ ⟨#[44, 32]⟩) ++ y := by
  cases l with
  | nil => exact absurd rfl h
  | cons x r => simp only [List.cons_append, joinX, List.foldl_append, List.foldl_cons, List.foldl_nil]
theorem joinX_eq (l : List ByteArray) : (⟨(Lib.join (l.map fun x => x.data.toList) [44, 32]).toArray⟩ : ByteArray) = joinX l := by
  cases l with
  | nil => rfl
  | cons x r =>
    rw [List.map_cons, Lib.join_cons, joinX]
    have key : ∀ (r : List ByteArray) (a : List UInt8) (s : ByteArray), s = mkS a → mkS (a ++ Lib.joinTail [44, 32] (r.map fun x => x.data.toList)) = r.foldl (fun s y => (s ++ ⟨#[44, 32]⟩) ++ y) s := by
      intro r
      induction r with
      | nil => intro a s h; simp [Lib.joinTail, h]
      | cons y r ih =>
        intro a s h
        rw [List.foldl_cons, ← ih (a ++ [44, 32] ++ y.data.toList) _ ?_]
        · simp [Lib.joinTail]
        · rw [h, show (⟨#[44, 32]⟩ : ByteArray) = mkS [44, 32] from rfl, mkS_append, ← Lib.toList_data]
          conv => lhs; rw [← mkS_of y]
          rw [mkS_append]
    exact key r x.data.toList x (by rw [← Lib.toList_data, mkS_of])
def t0 : Tm := .mk 0 noS 0 []
def combT (ns : List ByteArray) (op : Int) (nm : ByteArray) (nu : Int) (l : List Tm) (xs : List ByteArray) : ByteArray :=
  if op = 4 then digB nu
  else if op = 2 then (if 0 ≤ nu ∧ nu < ns.length then ns.getD (ns.length - 1 - nu.toNat) noS else ⟨#[39]⟩ ++ digB (nu - ns.length))
  else if op = 5 then (sideX (l.getD 0 t0) (xs.getD 0 noS) false ++ ⟨#[32, 43, 32]⟩) ++ sideX (l.getD 1 t0) (xs.getD 1 noS) (sumB (l.getD 1 t0))
  else if op = 6 then (sideX (l.getD 0 t0) (xs.getD 0 noS) false ++ ⟨#[32, 45, 32]⟩) ++ sideX (l.getD 1 t0) (xs.getD 1 noS) (sumB (l.getD 1 t0))
  else if op = 7 then ⟨#[45]⟩ ++ sideX (l.getD 0 t0) (xs.getD 0 noS) ((l.getD 0 t0).op == 4 || (sumB (l.getD 0 t0) || (l.getD 0 t0).op == 8))
  else if op = 8 then (sideX (.mk 4 noS nu []) (digB nu) false ++ ⟨#[32, 42, 32]⟩) ++ sideX (l.getD 0 t0) (xs.getD 0 noS) (sumB (l.getD 0 t0) || (l.getD 0 t0).op == 8)
  else if xs.length = 0 then nm else ((nm ++ ⟨#[40]⟩) ++ joinX xs) ++ ⟨#[41]⟩
mutual
/-- a term's text within binders of these names -/
def txtT (ns : List ByteArray) : Tm → ByteArray
  | .mk op nm nu l => combT ns op nm nu l (txtTs ns l)
def txtTs (ns : List ByteArray) : List Tm → List ByteArray
  | [] => []
  | x :: r => txtT ns x :: txtTs ns r
end
theorem txtTs_map (ns : List ByteArray) : ∀ l, txtTs ns l = l.map (txtT ns)
  | [] => rfl
  | x :: r => by rw [txtTs, txtTs_map ns r]; rfl
theorem txtT_eq (ns : List ByteArray) (t : Tm) : txtT ns t = combT ns t.op t.nm t.nu t.l (t.l.map (txtT ns)) := by
  cases t; rw [txtT, txtTs_map]; rfl
mutual
/-- are all names at most 100 bytes long? -/
def shortT : Tm → Bool
  | .mk _ nm _ l => shortTs l && decide (nm.size ≤ 100)
def shortTs : List Tm → Bool
  | [] => true
  | x :: r => shortT x && shortTs r
end
theorem shortTs_all : ∀ l, shortTs l = l.all shortT
  | [] => rfl
  | x :: r => by rw [shortTs, shortTs_all r]; rfl
theorem shortT_eq (t : Tm) : shortT t = (t.l.all shortT && decide (t.nm.size ≤ 100)) := by cases t; rw [shortT, shortTs_all]; rfl
def sumX : List ByteArray → Nat
  | [] => 0
  | x :: r => x.size + 4 + sumX r
theorem noS_size : noS.size = 0 := rfl
theorem sumX_one (xs : List ByteArray) : (xs.getD 0 noS).size ≤ sumX xs := by
  cases xs with
  | nil => simp [noS_size]
  | cons x r => simp only [List.getD_cons_zero, sumX]; omega
theorem sumX_two (xs : List ByteArray) : (xs.getD 0 noS).size + (xs.getD 1 noS).size ≤ sumX xs := by
  cases xs with
  | nil => simp [noS_size]
  | cons x r =>
    have := sumX_one r
    simp only [List.getD_cons_zero, List.getD_cons_succ, sumX]
    omega
theorem sumX_snoc : ∀ (l : List ByteArray) (y : ByteArray), sumX (l ++ [y]) = sumX l + (y.size + 4)
  | [], y => by simp [sumX]
  | x :: r, y => by simp only [List.cons_append, sumX, sumX_snoc r y]; omega
theorem joinX_size (xs : List ByteArray) : (joinX xs).size ≤ sumX xs := by
  cases xs with
  | nil => simp [joinX, sumX]
  | cons x r =>
    have key : ∀ (r : List ByteArray) (s : ByteArray), (r.foldl (fun s y => (s ++ ⟨#[44, 32]⟩) ++ y) s).size ≤ s.size + sumX r := by
      intro r
      induction r with
      | nil => intro s; simp [sumX]
      | cons y r ih =>
        intro s
        rw [List.foldl_cons]
        refine Nat.le_trans (ih _) ?_
        rw [cat_size, cat_size, sumX]
        have : (⟨#[44, 32]⟩ : ByteArray).size = 2 := rfl
        omega
    have := key r x
    simp only [joinX, sumX]
    omega
theorem sideX_size (t : Tm) (s : ByteArray) (br : Bool) : (sideX t s br).size ≤ s.size + 2 := by
  unfold sideX
  split
  · rw [cat_size, cat_size]
    have h1 : (⟨#[40]⟩ : ByteArray).size = 1 := rfl
    have h2 : (⟨#[41]⟩ : ByteArray).size = 1 := rfl
    omega
  · omega
theorem getD_size {ns : List ByteArray} {b : Nat} (h : ∀ s ∈ ns, s.size ≤ b) (i : Nat) : (ns.getD i noS).size ≤ b := by
  rw [List.getD_eq_getElem?_getD]
  cases hi : ns[i]? with
  | none => simp [noS_size]
  | some x => exact h x (List.mem_of_getElem? hi)
mutual
theorem txtT_size {ns : List ByteArray} (hn : ∀ s ∈ ns, s.size ≤ 100) : ∀ t : Tm, shortT t = true → (txtT ns t).size + 4 ≤ 200 * sizeT t
  | .mk op nm nu l, h => by
    rw [shortT, Bool.and_eq_true, decide_eq_true_eq] at h
    have hl := txtTs_size hn l h.1
    rw [txtT, sizeT]
    have b1 := sumX_one (txtTs ns l)
    have b2 := sumX_two (txtTs ns l)
    have b3 := joinX_size (txtTs ns l)
    have b4 := digB_size nu
    generalize txtTs ns l = xs at hl b1 b2 b3 ⊢
    unfold combT
    repeat' split
    · omega
    · have := getD_size hn (ns.length - 1 - nu.toNat); omega
    · rw [cat_size]
      have := digB_size (nu - ns.length)
      have h1 : (⟨#[39]⟩ : ByteArray).size = 1 := rfl
      omega
    · rw [cat_size, cat_size]
      have s1 := sideX_size (l.getD 0 t0) (xs.getD 0 noS) false
      have s2 := sideX_size (l.getD 1 t0) (xs.getD 1 noS) (sumB (l.getD 1 t0))
      have h1 : (⟨#[32, 43, 32]⟩ : ByteArray).size = 3 := rfl
      omega
    · rw [cat_size, cat_size]
      have s1 := sideX_size (l.getD 0 t0) (xs.getD 0 noS) false
      have s2 := sideX_size (l.getD 1 t0) (xs.getD 1 noS) (sumB (l.getD 1 t0))
      have h1 : (⟨#[32, 45, 32]⟩ : ByteArray).size = 3 := rfl
      omega
    · rw [cat_size]
      have s1 := sideX_size (l.getD 0 t0) (xs.getD 0 noS) ((l.getD 0 t0).op == 4 || (sumB (l.getD 0 t0) || (l.getD 0 t0).op == 8))
      have h1 : (⟨#[45]⟩ : ByteArray).size = 1 := rfl
      omega
    · rw [cat_size, cat_size]
      have s1 := sideX_size (.mk 4 noS nu []) (digB nu) false
      have s2 := sideX_size (l.getD 0 t0) (xs.getD 0 noS) (sumB (l.getD 0 t0) || (l.getD 0 t0).op == 8)
      have h1 : (⟨#[32, 42, 32]⟩ : ByteArray).size = 3 := rfl
      omega
    · omega
    · rw [cat_size, cat_size, cat_size]
      have h1 : (⟨#[40]⟩ : ByteArray).size = 1 := rfl
      have h2 : (⟨#[41]⟩ : ByteArray).size = 1 := rfl
      omega
theorem txtTs_size {ns : List ByteArray} (hn : ∀ s ∈ ns, s.size ≤ 100) : ∀ l : List Tm, shortTs l = true → sumX (txtTs ns l) ≤ 200 * sizeTs l
  | [], _ => by simp [txtTs, sumX]
  | x :: r, h => by
    rw [shortTs, Bool.and_eq_true] at h
    have h1 := txtT_size hn x h.1
    have h2 := txtTs_size hn r h.2
    rw [txtTs, sumX, sizeTs]
    omega
end
end Go.Eng
