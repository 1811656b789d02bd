-- own work: an evaluator of the program's code, and what it answers
import Derived.Test.YtdmoipccmbimhaaGreatDoorV3
import Derived.Test.YtdmoipccmbimhaaGreatDoorWellB
/- What is wrong with sorts, and with a function: packages sorts and sign. -/
set_option maxRecDepth 100000
set_option linter.unusedVariables false
set_option linter.unusedSimpArgs false
namespace Go.Eng
open Go Go.Proofs
/-- the first place of an error -/
def fstI (e : Nat → Int) (n : Nat) : Nat := idx (fun i => decide (e i ≠ 0)) (List.range n)
/-- the first error -/
def fstE (e : Nat → Int) (n : Nat) : Int := if fstI e n < n then e (fstI e n) else 0
theorem fstI_le (e : Nat → Int) (n : Nat) : fstI e n ≤ n := by
  have := idx_le (fun i => decide (e i ≠ 0)) (List.range n)
  simpa [fstI] using this
theorem fstI_not {e : Nat → Int} {n i : Nat} (h : i < fstI e n) : e i = 0 := by
  have hn := fstI_le e n
  have := idx_not (fun i => decide (e i ≠ 0)) (List.range n) i i h (by rw [List.getElem?_range (by omega)])
  simpa using this
theorem fstI_is {e : Nat → Int} {n : Nat} (h : fstI e n < n) : e (fstI e n) ≠ 0 := by
  have := idx_is (fun i => decide (e i ≠ 0)) (List.range n) (fstI e n) (by rw [show idx (fun i => decide (e i ≠ 0)) (List.range n) = fstI e n from rfl, List.getElem?_range h])
  simpa using this
theorem fstE_zero {e : Nat → Int} {n : Nat} (h : fstE e n = 0) : ∀ i, i < n → e i = 0 := by
  intro i hi
  unfold fstE at h
  split at h
  · rename_i hk; exact absurd h (fstI_is hk)
  · exact fstI_not (n := n) (by have := fstI_le e n; omega)
def mayS (s : ByteArray) : Bool := nameS s && (!beqS s sBool && !beqS s sInt)
def sortE (l : List ByteArray) (i : Nat) : Int := match l[i]? with
  | some x => if mayS x = false then 10 else if (l.take i).any (isS x) = true then 4 else 0
  | none => 0
def sortsE (l : List ByteArray) : Int := if 64 < l.length then 2 else fstE (sortE l) l.length
def checkE (s : Sg) (f : Fu) : Int := if nameS f.nm = false then 10 else if 8 < f.args.length then 12 else if f.args.all (thingS s) = false then 11 else if knownS s.sorts f.res = false then 11 else 0
def funE (s : Sg) (i : Nat) : Int := match s.funs[i]? with
  | some f => if checkE s f ≠ 0 then checkE s f else if (s.funs.take i).any (fun g => isS f.nm g.nm) = true then 4 else 0
  | none => 0
def signE (s : Sg) : Int := if sortsE s.sorts ≠ 0 then sortsE s.sorts else if 256 < s.funs.length then 2 else fstE (funE s) s.funs.length
set_option maxHeartbeats 4000000 in
theorem may_ev (s : ByteArray) (hs : s.size ≤ maxLen) (ro : Nat) (m : Mem) : evL Tryz.prog An ro 148 [.c (.v (.string s))] m = some (.c (.v (.bool (mayS s))), m) := by
  refine evL_by (n := 18) (by kernel_rfl) rfl fn148 rfl rfl rfl rfl ?_
  have h := fun ro m => name_ev s hs ro m
  have hw := fun ro m => word_ev s hs ro m
  unfold mayS nameS
  cases h1 : nameL s.data.toList <;> cases h2 : wordL s.data.toList <;> cases h3 : beqS s sBool <;> cases h4 : beqS s sInt <;> rw [h1] at h <;> rw [h2] at hw <;>
    simp only [go_sem, ↓reduceIte, h, hw, h3, h4]
set_option maxHeartbeats 2000000 in
theorem sindex_ev (l : List ByteArray) (nm : ByteArray) (hl : l.length ≤ maxLen) (ro : Nat) (m : Mem) :
    evL Tryz.prog An ro 151 [.c (.sl (l.map cS)), .c (.v (.string nm))] m = some (.c (.v (.int .i64 (if idx (isS nm) l < l.length then (idx (isS nm) l : Int) else -1))), m) := by
  rw [maxLen_eq] at hl
  refine evL_by (n := 19) (by kernel_rfl) rfl fn151 rfl rfl rfl rfl ?_
  simp only [go_sem, ↓reduceIte]
  generalize hL : loopW _ _ = L
  have hle := idx_le (isS nm) l
  obtain ⟨i, h1, hE, rfl⟩ := loopW_at hL (fun i : Nat => [(8, .c (.v (.int .i64 i)))]) (fun _ => [] :: m) (fun i => i ≤ idx (isS nm) l) (fun i => i = idx (isS nm) l) (fun i => l.length - i) 0 rfl rfl (by omega) (by
    rintro i h1 hE
    obtain ⟨x, hx⟩ : ∃ x, l[i]? = some x := ⟨_, List.getElem?_eq_getElem (by omega)⟩
    have c1 : decide ((i : Int) < (l.length : Int)) = true := dec_t (by omega)
    have c3 : IntKind.i64.wrap ((i : Int) + 1) = ((i + 1 : Nat) : Int) := wrap64 (by omega) (by omega)
    have c2 := idx_not (isS nm) l i x (by omega) hx
    unfold isS at c2
    rw [beqS_comm] at c2
    refine ⟨i + 1, by omega, by omega, ?_⟩
    rw [round_go]
    simp only [go_sem, ↓reduceIte, c1, c2, c3, hx])
  clear hL
  subst hE
  rw [loopW_go]
  by_cases hi : idx (isS nm) l < l.length
  · obtain ⟨x, hx⟩ : ∃ x, l[idx (isS nm) l]? = some x := ⟨_, List.getElem?_eq_getElem hi⟩
    have c1 : decide ((idx (isS nm) l : Int) < (l.length : Int)) = true := dec_t (by omega)
    have c2 := idx_is (isS nm) l x hx
    unfold isS at c2
    rw [beqS_comm] at c2
    rw [if_pos hi]
    simp only [go_sem, ↓reduceIte, c1, c2, hx]
  · have c1 : decide ((idx (isS nm) l : Int) < (l.length : Int)) = false := dec_f (by omega)
    rw [if_neg hi]
    simp only [go_sem, ↓reduceIte, c1]
set_option maxHeartbeats 2000000 in
theorem scontains_ev (l : List ByteArray) (nm : ByteArray) (hl : l.length ≤ maxLen) (ro : Nat) (m : Mem) :
    evL Tryz.prog An ro 111 [.c (.sl (l.map cS)), .c (.v (.string nm))] m = some (.c (.v (.bool (l.any (isS nm)))), m) := by
  refine evL_by (n := 9) (by kernel_rfl) rfl fn111 rfl rfl rfl rfl ?_
  have h := fun ro m => sindex_ev l nm hl ro m
  rw [← idx_any]
  by_cases hi : idx (isS nm) l < l.length
  · have c : decide ((idx (isS nm) l : Int) ≥ 0) = true := dec_t (by omega)
    rw [dec_t hi]
    rw [if_pos hi] at h
    simp only [go_sem, ↓reduceIte, h, c]
  · rw [dec_f hi]
    rw [if_neg hi] at h
    simp only [go_sem, ↓reduceIte, h]
    rfl
theorem headOK_strs (l : List ByteArray) : headOK 1 (l.map cS) = true := by cases l <;> rfl
set_option maxHeartbeats 4000000 in
theorem sorts_ev (l : List ByteArray) (hl : l.length ≤ maxLen) (hs : ∀ x ∈ l, x.size ≤ maxLen) (ro : Nat) (m : Mem) :
    evL Tryz.prog An ro 109 [.c (.sl (l.map cS))] m = some (.c (.v (.int .i64 (sortsE l))), m) := by
  rw [maxLen_eq] at hl
  refine evL_by (n := 24) (by kernel_rfl) rfl fn109 rfl rfl rfl rfl ?_
  unfold sortsE
  by_cases h64 : 64 < l.length
  · have c1 : decide ((l.length : Int) > 64) = true := dec_t (by omega)
    rw [if_pos h64]
    simp only [go_sem, ↓reduceIte, c1]
  have c0 : decide ((l.length : Int) > 64) = false := dec_f (by omega)
  rw [if_neg h64]
  simp only [go_sem, ↓reduceIte, c0]
  generalize hL : loopW _ _ = L
  have hle := fstI_le (sortE l) l.length
  have hT : ∀ i : Nat, i < l.length → ((l.map cS).take i) = (l.take i).map cS := fun i _ => List.map_take.symm
  obtain ⟨i, h1, hE, rfl⟩ := loopW_at hL (fun i : Nat => [(10, .c (.v (.int .i64 i)))]) (fun _ => [] :: m) (fun i => i ≤ fstI (sortE l) l.length) (fun i => i = fstI (sortE l) l.length) (fun i => l.length - i) 0 rfl rfl (by omega) (by
    rintro i h1 hE
    obtain ⟨x, hx⟩ : ∃ x, l[i]? = some x := ⟨_, List.getElem?_eq_getElem (by omega)⟩
    have c1 : decide ((i : Int) < (l.length : Int)) = true := dec_t (by omega)
    have c3 : IntKind.i64.wrap ((i : Int) + 1) = ((i + 1 : Nat) : Int) := wrap64 (by omega) (by omega)
    have c2 := fstI_not (e := sortE l) (n := l.length) (i := i) (by omega)
    simp only [sortE, hx] at c2
    have k1 : mayS x = true := by cases h : mayS x <;> simp [h] at c2 ⊢
    have k2 : (l.take i).any (isS x) = false := by rw [k1] at c2; cases h : (l.take i).any (isS x) <;> simp [h] at c2 ⊢
    have e1 := fun ro m => may_ev x (hs x (List.mem_of_getElem? hx)) ro m
    have e2 := fun ro m => scontains_ev (l.take i) x (by rw [maxLen_eq, List.length_take]; omega) ro m
    rw [k1] at e1
    rw [k2] at e2
    have q1 : (i : Int) ≤ (l.length : Int) := by omega
    have q0 : (0 : Int) ≤ (i : Int) := by omega
    refine ⟨i + 1, by omega, by omega, ?_⟩
    rw [round_go]
    simp only [go_sem, ↓reduceIte, c1, c3, hx, e1, e2, headOK_strs, q0, q1, List.length_map, and_self, Int.toNat_natCast, Int.toNat_zero, List.drop_zero, Nat.sub_zero, hT i (by omega)])
  clear hL
  subst hE
  rw [loopW_go]
  generalize hN : fstI (sortE l) l.length = N at *
  unfold fstE
  rw [hN]
  by_cases hi : N < l.length
  · obtain ⟨x, hx⟩ : ∃ x, l[N]? = some x := ⟨_, List.getElem?_eq_getElem hi⟩
    have c1 : decide ((N : Int) < (l.length : Int)) = true := dec_t (by omega)
    have c2 := fstI_is (e := sortE l) (n := l.length) (by omega)
    rw [hN] at c2
    rw [if_pos hi]
    simp only [sortE, hx] at c2 ⊢
    have e1 := fun ro m => may_ev x (hs x (List.mem_of_getElem? hx)) ro m
    have e2 := fun ro m => scontains_ev (l.take N) x (by rw [maxLen_eq, List.length_take]; omega) ro m
    have q1 : (N : Int) ≤ (l.length : Int) := by omega
    have q0 : (0 : Int) ≤ (N : Int) := by omega
    cases k1 : mayS x with
    | false =>
      rw [k1] at e1
      simp only [go_sem, ↓reduceIte, c1, hx, e1]
    | true =>
      rw [k1] at e1 c2
      cases k2 : (l.take N).any (isS x) with
      | false => rw [k2] at c2; simp at c2
      | true =>
        rw [k2] at e2
        simp only [go_sem, ↓reduceIte, c1, hx, e1, e2, headOK_strs, q0, q1, List.length_map, and_self, Int.toNat_natCast, Int.toNat_zero, List.drop_zero, Nat.sub_zero, hT N hi, Bool.true_eq_false]
  · have c1 : decide ((N : Int) < (l.length : Int)) = false := dec_f (by omega)
    rw [if_neg hi]
    simp only [go_sem, ↓reduceIte, c1]
set_option maxHeartbeats 4000000 in
theorem check_ev (s : Sg) (f : Fu) (hs : s.sorts.length ≤ 2000000) (hf : okF f) (ro : Nat) (m : Mem) :
    evL Tryz.prog An ro 110 [.c (encS s), .c (encF f)] m = some (.c (.v (.int .i64 (checkE s f))), m) := by
  have hl := hf.args
  rw [maxLen_eq] at hl
  refine evL_by (n := 43) (by kernel_rfl) rfl fn110 rfl rfl rfl rfl ?_
  have hn := fun ro m => name_ev f.nm hf.nm ro m
  have hw := fun ro m => word_ev f.nm hf.nm ro m
  unfold checkE nameS
  cases h1 : nameL f.nm.data.toList with
  | false => rw [h1] at hn; simp only [go_sem, ↓reduceIte, hn]
  | true =>
    rw [h1] at hn
    cases h2 : wordL f.nm.data.toList with
    | true => rw [h2] at hw; simp only [go_sem, ↓reduceIte, hn, hw]
    | false =>
      rw [h2] at hw
      by_cases h8 : 8 < f.args.length
      · have c1 : decide ((f.args.length : Int) > 8) = true := dec_t (by omega)
        simp only [go_sem, ↓reduceIte, hn, hw, c1, if_pos h8, Bool.true_eq_false]
      have c0 : decide ((f.args.length : Int) > 8) = false := dec_f (by omega)
      simp only [go_sem, ↓reduceIte, hn, hw, c0, if_neg h8, Bool.true_eq_false]
      generalize hL : loopW _ _ = L
      have hle := idx_le (fun a => !thingS s a) f.args
      obtain ⟨i, h1, hE, rfl⟩ := loopW_at hL (fun i : Nat => [(23, .c (.v (.int .i64 i)))]) (fun _ => [] :: m) (fun i => i ≤ idx (fun a => !thingS s a) f.args) (fun i => i = idx (fun a => !thingS s a) f.args) (fun i => f.args.length - i) 0 rfl rfl (by omega) (by
        rintro i h1 hE
        obtain ⟨x, hx⟩ : ∃ x, f.args[i]? = some x := ⟨_, List.getElem?_eq_getElem (by omega)⟩
        have c1 : decide ((i : Int) < (f.args.length : Int)) = true := dec_t (by omega)
        have c3 : IntKind.i64.wrap ((i : Int) + 1) = ((i + 1 : Nat) : Int) := wrap64 (by omega) (by omega)
        have c2 := idx_not (fun a => !thingS s a) f.args i x (by omega) hx
        simp only [thingS, Bool.not_eq_false', Bool.and_eq_true, Bool.not_eq_true'] at c2
        have e1 := fun ro m => f74_ev s.sorts x hs ro m
        rw [c2.2] at e1
        refine ⟨i + 1, by omega, by omega, ?_⟩
        rw [round_go]
        simp only [go_sem, ↓reduceIte, c1, c3, hx, e1, c2.1])
      clear hL
      have hall : f.args.all (thingS s) = !decide (idx (fun a => !thingS s a) f.args < f.args.length) := by
        rw [idx_any]; rw [List.any_eq_not_all_not]; simp
      rw [hall]
      rw [loopW_go, ← hE]
      by_cases hi : i < f.args.length
      · obtain ⟨x, hx⟩ : ∃ x, f.args[i]? = some x := ⟨_, List.getElem?_eq_getElem hi⟩
        have c1 : decide ((i : Int) < (f.args.length : Int)) = true := dec_t (by omega)
        have c2 := idx_is (fun a => !thingS s a) f.args x (by rw [← hE]; exact hx)
        rw [dec_t hi]
        have e1 := fun ro m => f74_ev s.sorts x hs ro m
        cases hb : beqS x sBool with
        | true => simp only [go_sem, ↓reduceIte, c1, hx, hb]
        | false =>
          have : knownS s.sorts x = false := by simpa [thingS, hb] using c2
          rw [this] at e1
          simp only [go_sem, ↓reduceIte, c1, hx, hb, e1]
      · have c1 : decide ((i : Int) < (f.args.length : Int)) = false := dec_f (by omega)
        rw [dec_f hi]
        have e1 := fun ro m => f74_ev s.sorts f.res hs ro m
        cases hk : knownS s.sorts f.res <;> rw [hk] at e1 <;> simp only [go_sem, ↓reduceIte, c1, e1, Bool.true_eq_false]
end Go.Eng
