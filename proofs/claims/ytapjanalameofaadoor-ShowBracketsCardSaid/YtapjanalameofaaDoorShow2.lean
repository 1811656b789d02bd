-- own work: an evaluator of the program's code, and what it answers
import Derived.Test.YtapjanalameofaaDoorShow
import Derived.Test.YtapjanalameofaaDoorEngC
/- What claims look like: plain Lean. -/
set_option maxRecDepth 100000
set_option linter.unusedVariables false
set_option linter.unusedSimpArgs false
namespace Go.Eng
open Go
/-! ### names -/
def usesB (op : Int) : Bool := op == 1 || op == 3
mutual
/-- the names of a term's variables and functions -/
def namesT : Tm → List ByteArray
  | .mk op nm _ l => (if usesB op = true then [nm] else []) ++ namesTs l
def namesTs : List Tm → List ByteArray
  | [] => []
  | x :: r => namesT x ++ namesTs r
end
mutual
/-- of a claim's variables, functions and predicates -/
def namesC : Cl → List ByteArray
  | .mk op nm _ ts ss => (if op = 3 then [nm] else []) ++ (namesTs ts ++ namesCs ss)
def namesCs : List Cl → List ByteArray
  | [] => []
  | x :: r => namesC x ++ namesCs r
end
theorem namesT_eq (t : Tm) : namesT t = (if usesB t.op = true then [t.nm] else []) ++ namesTs t.l := by cases t; rw [namesT]; rfl
theorem namesC_eq (c : Cl) : namesC c = (if c.op = 3 then [c.nm] else []) ++ (namesTs c.ts ++ namesCs c.ss) := by cases c; rw [namesC]; rfl
theorem namesTs_append : ∀ l r : List Tm, namesTs (l ++ r) = namesTs l ++ namesTs r
  | [], r => by simp [namesTs]
  | x :: l, r => by rw [List.cons_append, namesTs, namesTs, namesTs_append l r, List.append_assoc]
theorem namesCs_append : ∀ l r : List Cl, namesCs (l ++ r) = namesCs l ++ namesCs r
  | [], r => by simp [namesCs]
  | x :: l, r => by rw [List.cons_append, namesCs, namesCs, namesCs_append l r, List.append_assoc]
theorem namesTs_take (l : List Tm) (i : Nat) (x : Tm) (h : l[i]? = some x) : namesTs (l.take (i + 1)) = namesTs (l.take i) ++ namesT x := by
  rw [List.take_add_one, h, namesTs_append]; simp [namesTs]
theorem namesCs_take (l : List Cl) (i : Nat) (x : Cl) (h : l[i]? = some x) : namesCs (l.take (i + 1)) = namesCs (l.take i) ++ namesC x := by
  rw [List.take_add_one, h, namesCs_append]; simp [namesCs]
mutual
theorem namesT_len : ∀ t : Tm, (namesT t).length ≤ sizeT t
  | .mk op nm nu l => by
    have := namesTs_len l
    rw [namesT, sizeT, List.length_append]
    split <;> simp <;> omega
theorem namesTs_len : ∀ l : List Tm, (namesTs l).length ≤ sizeTs l
  | [] => by simp [namesTs]
  | x :: r => by
    have := namesT_len x
    have := namesTs_len r
    rw [namesTs, sizeTs, List.length_append]
    omega
end
mutual
theorem namesC_len : ∀ c : Cl, (namesC c).length ≤ sizeC c
  | .mk op nm so ts ss => by
    have := namesTs_len ts
    have := namesCs_len ss
    rw [namesC, sizeC, List.length_append, List.length_append]
    split <;> simp <;> omega
theorem namesCs_len : ∀ l : List Cl, (namesCs l).length ≤ sizeCs l
  | [] => by simp [namesCs]
  | x :: r => by
    have := namesC_len x
    have := namesCs_len r
    rw [namesCs, sizeCs, List.length_append]
    omega
end
/-! ### what binders are called -/
def xB : ByteArray := ⟨#[120]⟩
def callB (nm : ByteArray) : ByteArray := if nameL nm.toList && !wordL nm.toList then nm else xB
def calledB (nm : ByteArray) (taken : List ByteArray) : ByteArray := if (freshB (callB nm) taken).size ≤ 32 then freshB (callB nm) taken else freshB xB taken
theorem calledB_size (nm : ByteArray) (taken : List ByteArray) : (calledB nm taken).size ≤ 32 := by
  unfold calledB
  split
  · assumption
  · have := freshB_size xB taken
    have h : xB.size = 1 := rfl
    omega
/-! ### claims -/
def tightB (op : Int) : Int := if op = 10 then 1 else if op = 9 then 2 else if op = 8 then 3 else if op = 7 then 4 else 0
def signB (op : Int) : ByteArray := if op = 10 then ⟨#[32, 60, 45, 62, 32]⟩ else if op = 9 then ⟨#[32, 45, 62, 32]⟩ else if op = 8 then ⟨#[32, 124, 32]⟩ else if op = 7 then ⟨#[32, 38, 32]⟩ else noS
def markB (op : Int) : ByteArray := if op = 12 then ⟨#[63]⟩ else ⟨#[33]⟩
def brX (b : Bool) (s : ByteArray) : ByteArray := if b = true then (⟨#[40]⟩ ++ s) ++ ⟨#[41]⟩ else s
def applyX (nm : ByteArray) (xs : List ByteArray) : ByteArray := if xs.length = 0 then nm else ((nm ++ ⟨#[40]⟩) ++ joinX xs) ++ ⟨#[41]⟩
def trueB : ByteArray := ⟨#[116, 114, 117, 101]⟩
def falseB : ByteArray := ⟨#[102, 97, 108, 115, 101]⟩
mutual
/-- a claim's text within binders of these names, where at least so tight a sign may stand; last: nothing stands behind it -/
def txtC (free : List ByteArray) : List ByteArray → Int → Bool → Cl → ByteArray
  | ns, least, last, .mk op nm so ts ss =>
    if op = 1 then trueB
    else if op = 2 then falseB
    else if op = 4 then ((txtTs ns ts).getD 0 noS ++ ⟨#[32, 61, 32]⟩) ++ (txtTs ns ts).getD 1 noS
    else if op = 5 then ((txtTs ns ts).getD 0 noS ++ ⟨#[32, 60, 61, 32]⟩) ++ (txtTs ns ts).getD 1 noS
    else if op = 6 then ⟨#[126]⟩ ++ txt0 free ns 5 last ss
    else if bindB op = true then
      brX (!last) (((((markB op ++ calledB nm (free ++ ns)) ++ ⟨#[58, 32]⟩) ++ so) ++ ⟨#[46, 32]⟩) ++ txt0 free (ns ++ [calledB nm (free ++ ns)]) 1 true ss)
    else if tightB op = 0 then applyX nm (txtTs ns ts)
    else brX (decide (tightB op < least)) ((txt0 free ns (tightB op + 1) false ss ++ signB op) ++ txt1 free ns (tightB op) (last || decide (tightB op < least)) ss)
def txt0 (free : List ByteArray) : List ByteArray → Int → Bool → List Cl → ByteArray
  | _, _, _, [] => trueB
  | ns, least, last, x :: _ => txtC free ns least last x
def txt1 (free : List ByteArray) : List ByteArray → Int → Bool → List Cl → ByteArray
  | _, _, _, [] => trueB
  | ns, least, last, _ :: r => txt0 free ns least last r
end
theorem txt0_getD (free ns : List ByteArray) (least : Int) (last : Bool) (ss : List Cl) : txt0 free ns least last ss = txtC free ns least last (ss.getD 0 (.mk 1 noS noS [] [])) := by
  cases ss with
  | nil => rw [txt0, List.getD_nil, txtC]; rfl
  | cons x r => rw [txt0]; rfl
theorem txt1_getD (free ns : List ByteArray) (least : Int) (last : Bool) (ss : List Cl) : txt1 free ns least last ss = txtC free ns least last (ss.getD 1 (.mk 1 noS noS [] [])) := by
  cases ss with
  | nil => rw [txt1, List.getD_nil, txtC]; rfl
  | cons x r => rw [txt1, txt0_getD]; rfl
/-- the text of a claim -/
def textC (c : Cl) : ByteArray := txtC (namesC c) [] 1 true c
mutual
def namedB : Cl → Bool
  | .mk _ nm so ts ss => ts.all shortT && namedBs ss && (decide (nm.size ≤ 100) && decide (so.size ≤ 100))
def namedBs : List Cl → Bool
  | [] => true
  | x :: r => namedB x && namedBs r
end
theorem namedBs_all : ∀ l, namedBs l = l.all namedB
  | [] => rfl
  | x :: r => by rw [namedBs, namedBs_all r]; rfl
theorem namedB_eq (c : Cl) : namedB c = (c.ts.all shortT && c.ss.all namedB && (decide (c.nm.size ≤ 100) && decide (c.so.size ≤ 100))) := by cases c; rw [namedB, namedBs_all]; rfl
theorem brX_size (b : Bool) (s : ByteArray) : (brX b s).size ≤ s.size + 2 := by
  unfold brX
  split
  · rw [cat_size, cat_size]
    have h1 : (⟨#[40]⟩ : ByteArray).size = 1 := rfl
    have h2 : (⟨#[41]⟩ : ByteArray).size = 1 := rfl
    omega
  · omega
theorem applyX_size (nm : ByteArray) (xs : List ByteArray) : (applyX nm xs).size ≤ nm.size + sumX xs + 2 := by
  unfold applyX
  split
  · omega
  · rw [cat_size, cat_size, cat_size]
    have h1 : (⟨#[40]⟩ : ByteArray).size = 1 := rfl
    have h2 : (⟨#[41]⟩ : ByteArray).size = 1 := rfl
    have := joinX_size xs
    omega
mutual
theorem txtC_size {free : List ByteArray} : ∀ (c : Cl) (ns : List ByteArray) (least : Int) (last : Bool), (∀ s ∈ ns, s.size ≤ 100) → namedB c = true → (txtC free ns least last c).size + 4 ≤ 400 * sizeC c
  | .mk op nm so ts ss, ns, least, last, hn, h => by
    simp only [namedB, Bool.and_eq_true, decide_eq_true_eq] at h
    obtain ⟨⟨h1, h2⟩, h3, h4⟩ := h
    have hts := txtTs_size hn ts (by rw [shortTs_all]; exact h1)
    have a0 := sumX_one (txtTs ns ts)
    have a1 := sumX_two (txtTs ns ts)
    have a2 := applyX_size nm (txtTs ns ts)
    have hs := txts_size (free := free) ss h2
    rw [txtC, sizeC]
    have t1 : trueB.size = 4 := rfl
    have t2 : falseB.size = 5 := rfl
    repeat' split
    · omega
    · omega
    · rw [cat_size, cat_size]
      have k : (⟨#[32, 61, 32]⟩ : ByteArray).size = 3 := rfl
      omega
    · rw [cat_size, cat_size]
      have k : (⟨#[32, 60, 61, 32]⟩ : ByteArray).size = 4 := rfl
      omega
    · rw [cat_size]
      have k : (⟨#[126]⟩ : ByteArray).size = 1 := rfl
      have := (hs ns 5 last 5 last hn hn).1
      omega
    · refine Nat.le_trans (Nat.add_le_add_right (brX_size _ _) 4) ?_
      rw [cat_size, cat_size, cat_size, cat_size, cat_size]
      have k1 : (⟨#[58, 32]⟩ : ByteArray).size = 2 := rfl
      have k2 : (⟨#[46, 32]⟩ : ByteArray).size = 2 := rfl
      have k3 : (markB op).size = 1 := by unfold markB; split <;> rfl
      have k4 := calledB_size nm (free ++ ns)
      have hn2 : ∀ s ∈ ns ++ [calledB nm (free ++ ns)], s.size ≤ 100 := fun s hsm => by
        rcases List.mem_append.1 hsm with hsm | hsm
        · exact hn s hsm
        · obtain rfl := List.mem_singleton.1 hsm; omega
      have := (hs (ns ++ [calledB nm (free ++ ns)]) 1 true 1 true hn2 hn2).1
      omega
    · omega
    · refine Nat.le_trans (Nat.add_le_add_right (brX_size _ _) 4) ?_
      rw [cat_size, cat_size]
      have k : (signB op).size ≤ 5 := by
        unfold signB
        repeat' split
        all_goals decide
      have := (hs ns (tightB op + 1) false (tightB op) (last || decide (tightB op < least)) hn hn).2
      omega
theorem txts_size {free : List ByteArray} : ∀ (l : List Cl), namedBs l = true → ∀ (ns : List ByteArray) (least : Int) (last : Bool) (least' : Int) (last' : Bool), (∀ s ∈ ns, s.size ≤ 100) → (∀ s ∈ ns, s.size ≤ 100) →
    (txt0 free ns least last l).size ≤ 4 + 400 * sizeCs l ∧ (txt0 free ns least last l).size + (txt1 free ns least' last' l).size ≤ 8 + 400 * sizeCs l
  | [], _, ns, least, last, least', last', _, _ => by
    have t1 : trueB.size = 4 := rfl
    simp only [txt0, txt1]
    omega
  | x :: r, h, ns, least, last, least', last', hn, _ => by
    rw [namedBs, Bool.and_eq_true] at h
    have h1 := txtC_size (free := free) x ns least last hn h.1
    have h2 := (txts_size (free := free) r h.2 ns least' last' least' last' hn hn).1
    rw [txt0, txt1, sizeCs]
    omega
end
theorem textC_size {c : Cl} (h : namedB c = true) : (textC c).size + 4 ≤ 400 * sizeC c := txtC_size c [] 1 true (fun s hs => by cases hs) h
end Go.Eng
