-- own work: an evaluator of the program's code, and what it answers
import Derived.Test.YtapjanalameofaaDoorShow2
/- Brackets in the texts of claims without binders: plain Lean. -/
set_option maxRecDepth 100000
set_option linter.unusedVariables false
set_option linter.unusedSimpArgs false
namespace Go.Eng
open Go
/-- how deep in brackets one is behind some bytes -/
def runB : List UInt8 → Nat → Option Nat
  | [], d => some d
  | x :: r, d => if x = 40 then runB r (d + 1) else if x = 41 then (match d with | 0 => none | d + 1 => runB r d) else runB r d
theorem runB_cons (x : UInt8) (r : List UInt8) (d : Nat) : runB (x :: r) d = if x = 40 then runB r (d + 1) else if x = 41 then (match d with | 0 => none | d + 1 => runB r d) else runB r d := by rw [runB.eq_def]
theorem runB_append : ∀ (a b : List UInt8) (d : Nat), runB (a ++ b) d = (runB a d).bind (runB b)
  | [], b, d => rfl
  | x :: r, b, d => by
    rw [List.cons_append, runB_cons, runB_cons]
    split
    · exact runB_append r b (d + 1)
    · split
      · cases d with
        | zero => rfl
        | succ d => exact runB_append r b d
      · exact runB_append r b d
/-- brackets open and close in pairs -/
def Bal (s : ByteArray) : Prop := ∀ d, runB s.toList d = some d
theorem Bal.cat {a b : ByteArray} (h : Bal a) (h2 : Bal b) : Bal (a ++ b) := fun d => by
  rw [cat_list, runB_append, h d]; exact h2 d
theorem runB_free : ∀ (l : List UInt8) (d : Nat), (∀ x ∈ l, x ≠ 40 ∧ x ≠ 41) → runB l d = some d
  | [], d, _ => rfl
  | x :: r, d, h => by
    have := h x List.mem_cons_self
    rw [runB_cons, if_neg this.1, if_neg this.2]
    exact runB_free r d fun y hy => h y (List.mem_cons_of_mem _ hy)
theorem Bal.free {s : ByteArray} (h : ∀ x ∈ s.toList, x ≠ 40 ∧ x ≠ 41) : Bal s := fun d => runB_free _ d h
theorem Bal.lit {l : List UInt8} (h : (l.all fun x => x != 40 && x != 41) = true) : Bal (mkS l) := Bal.free fun x hx => by
  rw [mkS_list] at hx
  have := List.all_eq_true.1 h x hx
  simpa using this
theorem Bal.br {s : ByteArray} (h : Bal s) : Bal (((⟨#[40]⟩ : ByteArray) ++ s) ++ ⟨#[41]⟩) := fun d => by
  have e1 : (⟨#[40]⟩ : ByteArray).toList = [40] := mkS_list [40]
  have e2 : (⟨#[41]⟩ : ByteArray).toList = [41] := mkS_list [41]
  rw [cat_list, cat_list, runB_append, runB_append, e1, e2]
  have : runB [40] d = some (d + 1) := rfl
  rw [this]
  simp only [Option.bind_some]
  rw [h (d + 1)]
  rfl
theorem Bal.empty : Bal ByteArray.empty := Bal.lit (l := []) rfl
theorem dig_free : ∀ (k u : Nat), ∀ x ∈ digF k u, x ≠ 40 ∧ x ≠ 41
  | 0, u, x, h => by simp [digF] at h
  | k + 1, u, x, h => by
    have key : ∀ v : Nat, v < 10 → UInt8.ofNat (48 + v) ≠ 40 ∧ UInt8.ofNat (48 + v) ≠ 41 := fun v hv => by
      have e : (UInt8.ofNat (48 + v)).toNat = 48 + v := by rw [UInt8.toNat_ofNat']; omega
      refine ⟨fun h => ?_, fun h => ?_⟩
      · have := congrArg UInt8.toNat h
        rw [e] at this
        have h40 : (40 : UInt8).toNat = 40 := rfl
        omega
      · have := congrArg UInt8.toNat h
        rw [e] at this
        have h41 : (41 : UInt8).toNat = 41 := rfl
        omega
    rw [digF] at h
    split at h
    · rename_i hu
      obtain rfl := List.mem_singleton.1 h
      exact key u hu
    · rcases List.mem_append.1 h with h | h
      · exact dig_free k (u / 10) x h
      · obtain rfl := List.mem_singleton.1 h
        exact key (u % 10) (by omega)
theorem Bal.dig (n : Int) : Bal (digB n) := Bal.free fun x hx => by
  unfold digB at hx
  rw [mkS_list] at hx
  split at hx
  · rcases List.mem_cons.1 hx with rfl | hx
    · decide
    · exact dig_free _ _ x hx
  · exact dig_free _ _ x hx
/-! ### claims of small letters, without binders -/
def smallB (s : ByteArray) : Bool := s.toList.all fun b => decide (97 ≤ b.toNat) && decide (b.toNat ≤ 122)
theorem Bal.small {s : ByteArray} (h : smallB s = true) : Bal s := Bal.free fun x hx => by
  have := List.all_eq_true.1 h x hx
  simp only [Bool.and_eq_true, decide_eq_true_eq] at this
  refine ⟨fun e => ?_, fun e => ?_⟩
  · rw [e] at this
    have h40 : (40 : UInt8).toNat = 40 := rfl
    omega
  · rw [e] at this
    have h41 : (41 : UInt8).toNat = 41 := rfl
    omega
mutual
def letT : Tm → Bool
  | .mk _ nm _ l => letTs l && smallB nm
def letTs : List Tm → Bool
  | [] => true
  | x :: r => letT x && letTs r
end
theorem letTs_all : ∀ l, letTs l = l.all letT
  | [] => rfl
  | x :: r => by rw [letTs, letTs_all r]; rfl
theorem letT_eq (t : Tm) : letT t = (t.l.all letT && smallB t.nm) := by cases t; rw [letT, letTs_all]; rfl
mutual
def letC : Cl → Bool
  | .mk op nm _ ts ss => !(bindB op || !smallB nm) && (ts.all letT && letCs ss)
def letCs : List Cl → Bool
  | [] => true
  | x :: r => letC x && letCs r
end
theorem letCs_all : ∀ l, letCs l = l.all letC
  | [] => rfl
  | x :: r => by rw [letCs, letCs_all r]; rfl
theorem letC_eq (c : Cl) : letC c = (!(bindB c.op || !smallB c.nm) && (c.ts.all letT && c.ss.all letC)) := by cases c; rw [letC, letCs_all]; rfl
theorem Bal.join : ∀ {l : List ByteArray}, (∀ x ∈ l, Bal x) → Bal (joinX l)
  | [], _ => Bal.empty
  | x :: r, h => by
    have key : ∀ (r : List ByteArray) (s : ByteArray), Bal s → (∀ x ∈ r, Bal x) → Bal (r.foldl (fun s y => (s ++ ⟨#[44, 32]⟩) ++ y) s) := by
      intro r
      induction r with
      | nil => intro s h _; exact h
      | cons y r ih =>
        intro s h hr
        rw [List.foldl_cons]
        exact ih _ ((h.cat (Bal.lit (l := [44, 32]) rfl)).cat (hr y List.mem_cons_self)) fun z hz => hr z (List.mem_cons_of_mem _ hz)
    exact key r x (h x List.mem_cons_self) fun z hz => h z (List.mem_cons_of_mem _ hz)
theorem Bal.side {t : Tm} {s : ByteArray} {b : Bool} (h : Bal s) : Bal (sideX t s b) := by
  unfold sideX
  split
  · exact h.br
  · exact h
theorem Bal.getD {l : List ByteArray} (h : ∀ x ∈ l, Bal x) (i : Nat) : Bal (l.getD i noS) := by
  rw [List.getD_eq_getElem?_getD]
  cases hi : l[i]? with
  | none => exact Bal.empty
  | some x => exact h x (List.mem_of_getElem? hi)
mutual
theorem Bal.txt : ∀ t : Tm, letT t = true → Bal (txtT [] t)
  | .mk op nm nu l, h => by
    rw [letT, Bool.and_eq_true] at h
    have hl := Bal.txts l h.1
    have hn := Bal.small h.2
    have hd := Bal.dig nu
    rw [txtT]
    generalize txtTs [] l = xs at hl ⊢
    unfold combT
    repeat' split
    · exact hd
    · exact Bal.empty
    · exact (Bal.lit (l := [39]) rfl).cat (Bal.dig _)
    · exact ((Bal.getD hl 0).side.cat (Bal.lit (l := [32, 43, 32]) rfl)).cat (Bal.getD hl 1).side
    · exact ((Bal.getD hl 0).side.cat (Bal.lit (l := [32, 45, 32]) rfl)).cat (Bal.getD hl 1).side
    · exact (Bal.lit (l := [45]) rfl).cat (Bal.getD hl 0).side
    · exact (hd.side.cat (Bal.lit (l := [32, 42, 32]) rfl)).cat (Bal.getD hl 0).side
    · exact hn
    · rw [cat_assoc nm, cat_assoc nm]
      exact hn.cat (Bal.join hl).br
theorem Bal.txts : ∀ l : List Tm, letTs l = true → ∀ x ∈ txtTs [] l, Bal x
  | [], _, x, hx => by simp [txtTs] at hx
  | y :: r, h, x, hx => by
    rw [letTs, Bool.and_eq_true] at h
    rw [txtTs] at hx
    rcases List.mem_cons.1 hx with rfl | hx
    · exact Bal.txt y h.1
    · exact Bal.txts r h.2 x hx
end
theorem Bal.brX {s : ByteArray} {b : Bool} (h : Bal s) : Bal (brX b s) := by
  unfold Go.Eng.brX
  split
  · exact h.br
  · exact h
theorem Bal.sign (op : Int) : Bal (signB op) := by
  unfold signB
  repeat' split
  · exact Bal.lit (l := [32, 60, 45, 62, 32]) rfl
  · exact Bal.lit (l := [32, 45, 62, 32]) rfl
  · exact Bal.lit (l := [32, 124, 32]) rfl
  · exact Bal.lit (l := [32, 38, 32]) rfl
  · exact Bal.empty
theorem let_bind {op : Int} {nm so : ByteArray} {ts : List Tm} {ss : List Cl} (h : letC (.mk op nm so ts ss) = true) : bindB op = false ∧ smallB nm = true ∧ letTs ts = true ∧ letCs ss = true := by
  rw [letC] at h
  simp only [Bool.and_eq_true, Bool.not_eq_true', Bool.or_eq_false_iff, Bool.not_eq_false'] at h
  exact ⟨h.1.1, h.1.2, by rw [letTs_all]; exact h.2.1, h.2.2⟩
theorem Bal.true_ : Bal trueB := Bal.lit (l := [116, 114, 117, 101]) rfl
mutual
theorem Bal.txtC {free : List ByteArray} : ∀ (c : Cl) (least : Int) (last : Bool), letC c = true → Bal (txtC free [] least last c)
  | .mk op nm so ts ss, least, last, h => by
    obtain ⟨h1, h2, h3, h4⟩ := let_bind h
    have ht := Bal.txts ts h3
    have hs := fun least last => Bal.txt01 (free := free) ss least last h4
    rw [Go.Eng.txtC]
    rw [if_neg (show ¬ bindB op = true by rw [h1]; decide)]
    repeat' split
    · exact Bal.true_
    · exact Bal.lit (l := [102, 97, 108, 115, 101]) rfl
    · exact ((Bal.getD ht 0).cat (Bal.lit (l := [32, 61, 32]) rfl)).cat (Bal.getD ht 1)
    · exact ((Bal.getD ht 0).cat (Bal.lit (l := [32, 60, 61, 32]) rfl)).cat (Bal.getD ht 1)
    · exact (Bal.lit (l := [126]) rfl).cat (hs 5 last).1
    · unfold applyX
      split
      · exact Bal.small h2
      · rw [cat_assoc nm, cat_assoc nm]
        exact (Bal.small h2).cat (Bal.join ht).br
    · exact (((hs _ _).1.cat (Bal.sign op)).cat (hs _ _).2).brX
theorem Bal.txt01 {free : List ByteArray} : ∀ (l : List Cl) (least : Int) (last : Bool), letCs l = true → Bal (txt0 free [] least last l) ∧ Bal (txt1 free [] least last l)
  | [], _, _, _ => by rw [txt0, txt1]; exact ⟨Bal.true_, Bal.true_⟩
  | x :: r, least, last, h => by
    rw [letCs, Bool.and_eq_true] at h
    rw [txt0, txt1]
    exact ⟨Bal.txtC x least last h.1, (Bal.txt01 r least last h.2).1⟩
end
mutual
/-- without binders, the names and what stands behind count for nothing -/
theorem txtC_same {free free' : List ByteArray} : ∀ (c : Cl) (ns : List ByteArray) (least : Int) (last last' : Bool), letC c = true → txtC free ns least last c = txtC free' ns least last' c
  | .mk op nm so ts ss, ns, least, last, last', h => by
    obtain ⟨h1, h2, h3, h4⟩ := let_bind h
    have hs := fun least last last' => txt01_same (free := free) (free' := free') ss ns least last last' h4
    rw [txtC, txtC]
    rw [if_neg (show ¬ bindB op = true by rw [h1]; decide), if_neg (show ¬ bindB op = true by rw [h1]; decide)]
    rw [(hs 5 last last').1, (hs (tightB op + 1) false false).1, (hs (tightB op) (last || decide (tightB op < least)) (last' || decide (tightB op < least))).2]
theorem txt01_same {free free' : List ByteArray} : ∀ (l : List Cl) (ns : List ByteArray) (least : Int) (last last' : Bool), letCs l = true → txt0 free ns least last l = txt0 free' ns least last' l ∧ txt1 free ns least last l = txt1 free' ns least last' l
  | [], _, _, _, _, _ => by rw [txt0, txt0, txt1, txt1]; exact ⟨rfl, rfl⟩
  | x :: r, ns, least, last, last', h => by
    rw [letCs, Bool.and_eq_true] at h
    rw [txt0, txt0, txt1, txt1]
    exact ⟨txtC_same x ns least last last' h.1, (txt01_same r ns least last last' h.2).1⟩
end
theorem tight_pos (op : Int) : tightB op = 0 ∨ (1 ≤ tightB op ∧ tightB op ≤ 4) := by
  unfold tightB
  repeat' split
  all_goals omega
/-- a claim within another one: as it is, or in brackets -/
theorem txtC_in {free free' : List ByteArray} (c : Cl) (ns : List ByteArray) (least : Int) (last : Bool) (h : letC c = true) : txtC free ns least last c = txtC free' ns 1 true c ∨ txtC free ns least last c = brX true (txtC free' ns 1 true c) := by
  rw [txtC_same (free' := free') c ns least last true h]
  obtain ⟨op, nm, so, ts, ss⟩ := c
  obtain ⟨h1, h2, h3, h4⟩ := let_bind h
  rw [txtC, txtC]
  rw [if_neg (show ¬ bindB op = true by rw [h1]; decide), if_neg (show ¬ bindB op = true by rw [h1]; decide)]
  simp only [Bool.true_or]
  by_cases k1 : op = 1
  · exact .inl (by simp only [if_pos k1])
  by_cases k2 : op = 2
  · exact .inl (by simp only [if_neg k1, if_pos k2])
  by_cases k4 : op = 4
  · exact .inl (by simp only [if_neg k1, if_neg k2, if_pos k4])
  by_cases k5 : op = 5
  · exact .inl (by simp only [if_neg k1, if_neg k2, if_neg k4, if_pos k5])
  by_cases k6 : op = 6
  · exact .inl (by simp only [if_neg k1, if_neg k2, if_neg k4, if_neg k5, if_pos k6])
  by_cases k0 : tightB op = 0
  · exact .inl (by simp only [if_neg k1, if_neg k2, if_neg k4, if_neg k5, if_neg k6, if_pos k0])
  rw [if_neg k1, if_neg k2, if_neg k4, if_neg k5, if_neg k6, if_neg k0, if_neg k1, if_neg k2, if_neg k4, if_neg k5, if_neg k6, if_neg k0]
  have hp := (tight_pos op).resolve_left k0
  have d1 : decide (tightB op < 1) = false := decide_eq_false (by omega)
  rw [d1]
  cases decide (tightB op < least) with
  | false => exact .inl rfl
  | true => exact .inr rfl
end Go.Eng
