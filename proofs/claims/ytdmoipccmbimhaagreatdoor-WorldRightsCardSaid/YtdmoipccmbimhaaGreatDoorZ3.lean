-- own work: an evaluator of the program's code, and what it answers
import Derived.Test.YtdmoipccmbimhaaGreatDoorZ2
/- Whether a world is one of a signature: package world's Right. -/
set_option maxRecDepth 100000
set_option linter.unusedVariables false
set_option linter.unusedSimpArgs false
namespace Go.Eng
open Go Go.Proofs
theorem look_lowZ {fr : Fr} {m : Mem} {D t : Nat} (h : D < m.length) : look (fr :: m) D t = look m D t := by
  simp only [look]; rw [if_neg (by omega)]
def outB (z v : Int) : Bool := decide (v < 0) || decide (v ≥ z)
def mpC (so : List ByteArray) (l : List Int) : C := .mp (keysC so) (valsC l)
set_option maxHeartbeats 1000000 in
theorem out_ev (so : List ByteArray) (l : List Int) (f : Fu) (hl : l.length = so.length) (v : Int) (D : Nat) (m : Mem) (ro : Nat) (hro : ro ≤ D) (hD : D < m.length) (h6 : look m D 6 = some [.c (.mp (keysC so) (valsC l))]) (h8 : look m D 8 = some (boxF f)) :
    evL Tryz.prog AnZ ro 45 [.c (.v (.int .i64 v)), .p D 6 0, .p D 8 0] m = some (.c (.v (.bool (outB (sizeI so l f.res) v))), m) := by
  have hroD : ro ≤ m.length := by omega
  have e1 : (D = m.length) = False := by simp; omega
  have l1 : ∀ fr, look (fr :: m) D 6 = some [.c (.mp (keysC so) (valsC l))] := fun fr => (look_lowZ hD).trans h6
  have l2 : ∀ fr, look (fr :: m) D 8 = some [.c (.v (.string f.nm)), .c (.sl (f.args.map cS)), .c (.v (.string f.res))] := fun fr => (look_lowZ hD).trans h8
  have hlt : decide (D < m.length + 1) = true := dec_t (by omega)
  refine evL_by (n := 15) (by kernel_rfl) rfl fn45 rfl rfl rfl rfl ?_
  unfold outB
  cases h1 : decide (v < 0) with
  | true => simp only [go_sem, ↓reduceIte, l1, l2, hro, hroD, e1, hlt, h1, Bool.true_or]
  | false =>
    rcases find_sizes so l hl f.res with h | ⟨h, h0⟩
    · cases h2 : decide (v ≥ sizeI so l f.res) <;> simp only [go_sem, ↓reduceIte, l1, l2, hro, hroD, e1, hlt, h1, h, h2, Bool.false_or]
    · rw [h0]
      cases h2 : decide (v ≥ 0) <;> simp only [go_sem, ↓reduceIte, l1, l2, hro, hroD, e1, hlt, h1, h, h2, Bool.false_or]
set_option maxHeartbeats 2000000 in
theorem oindex_ev (so : List ByteArray) (l : List Int) (f : Fu) (hl : l.length = so.length) (t : List Int) (ht : t.length ≤ maxLen) (D : Nat) (m : Mem) (ro : Nat) (hro : ro ≤ D) (hD : D < m.length) (h6 : look m D 6 = some [.c (.mp (keysC so) (valsC l))]) (h8 : look m D 8 = some (boxF f)) :
    evL Tryz.prog AnZ ro 71 [.c (.sl (t.map cI)), .fn (.func 45) [.p D 6 0, .p D 8 0]] m = some (.c (.v (.int .i64 (if idx (outB (sizeI so l f.res)) t < t.length then (idx (outB (sizeI so l f.res)) t : Int) else -1))), m) := by
  rw [maxLen_eq] at ht
  have hroD : ro ≤ m.length := by omega
  have e1 : (D = m.length) = False := by simp; omega
  have hlt : decide (D < m.length + 1) = true := dec_t (by omega)
  have hlt2 : decide (D < m.length + 1 + 1) = true := dec_t (by omega)
  have h1' := fun v fr => out_ev so l f hl v D (fr :: m) ro hro (by simp; omega) ((look_lowZ hD).trans h6) ((look_lowZ hD).trans h8)
  refine evL_by (n := 19) (by kernel_rfl) rfl fn71 rfl rfl rfl rfl ?_
  simp only [go_sem, ↓reduceIte, hlt, hlt2, e1]
  generalize sizeI so l f.res = z at *
  generalize hL : loopW _ _ = L
  have hle := idx_le (outB z) t
  obtain ⟨i, h1, hE, rfl⟩ := loopW_at hL (fun i : Nat => [(8, .c (.v (.int .i64 i)))]) (fun _ => [] :: m) (fun i => i ≤ idx (outB z) t) (fun i => i = idx (outB z) t) (fun i => t.length - i) 0 rfl rfl (by omega) (by
    rintro i h1 hE
    obtain ⟨x, hx⟩ : ∃ x, t[i]? = some x := ⟨_, List.getElem?_eq_getElem (by omega)⟩
    have c1 : decide ((i : Int) < (t.length : Int)) = true := dec_t (by omega)
    have c3 : IntKind.i64.wrap ((i : Int) + 1) = ((i + 1 : Nat) : Int) := wrap64 (by omega) (by omega)
    have c2 := idx_not (outB z) t i x (by omega) hx
    refine ⟨i + 1, by omega, by omega, ?_⟩
    rw [round_go]
    simp only [go_sem, ↓reduceIte, c1, c2, c3, hx, h1', hro, hroD, e1, hlt, hlt2])
  clear hL
  subst hE
  rw [loopW_go]
  by_cases hi : idx (outB z) t < t.length
  · obtain ⟨x, hx⟩ : ∃ x, t[idx (outB z) t]? = some x := ⟨_, List.getElem?_eq_getElem hi⟩
    have c1 : decide ((idx (outB z) t : Int) < (t.length : Int)) = true := dec_t (by omega)
    have c2 := idx_is (outB z) t x hx
    simp only [go_sem, ↓reduceIte, c1, c2, hx, h1', if_pos hi, hro, hroD, e1, hlt, hlt2]
  · have c1 : decide ((idx (outB z) t : Int) < (t.length : Int)) = false := dec_f (by omega)
    simp only [go_sem, ↓reduceIte, c1, if_neg hi, hro, hroD, e1, hlt, hlt2]
set_option maxHeartbeats 1000000 in
theorem ocontains_ev (so : List ByteArray) (l : List Int) (f : Fu) (hl : l.length = so.length) (t : List Int) (ht : t.length ≤ maxLen) (D : Nat) (m : Mem) (ro : Nat) (hro : ro ≤ D) (hD : D < m.length) (h6 : look m D 6 = some [.c (.mp (keysC so) (valsC l))]) (h8 : look m D 8 = some (boxF f)) :
    evL Tryz.prog AnZ ro 44 [.c (.sl (t.map cI)), .fn (.func 45) [.p D 6 0, .p D 8 0]] m = some (.c (.v (.bool (t.any (outB (sizeI so l f.res))))), m) := by
  have hroD : ro ≤ m.length := by omega
  have e1 : (D = m.length) = False := by simp; omega
  have hlt : decide (D < m.length + 1) = true := dec_t (by omega)
  have hlt2 : decide (D < m.length + 1 + 1) = true := dec_t (by omega)
  have h1' := fun fr => oindex_ev so l f hl t ht D (fr :: m) ro hro (by simp; omega) ((look_lowZ hD).trans h6) ((look_lowZ hD).trans h8)
  refine evL_by (n := 9) (by kernel_rfl) rfl fn44 rfl rfl rfl rfl ?_
  rw [← idxAny]
  simp only [go_sem, ↓reduceIte, ge_iff_le, h1', hro, hroD, e1, hlt, hlt2]
/-- what is wrong with a table -/
def tabE (s : Sg) (w : Wd) (i : Nat) : Int := match s.funs[i]?, w.tables[i]? with
  | some f, some t => if 4096 < valuesI s.sorts w.sizes f then 2 else if (t.length : Int) ≠ valuesI s.sorts w.sizes f then 1 else if t.any (outB (sizeI s.sorts w.sizes f.res)) = true then 1 else 0
  | _, _ => 0
def wrightE (s : Sg) (w : Wd) : Int := if sizedE s w.sizes ≠ 0 then sizedE s w.sizes else if w.tables.length ≠ s.funs.length then 1 else fstE (tabE s w) s.funs.length
set_option maxHeartbeats 4000000 in
theorem wright_ev (s : Sg) (w : Wd) (hs : okS s) (hw : okW w) (ro : Nat) (m : Mem) (hro : ro ≤ m.length) :
    evL Tryz.prog AnZ ro 11 [.c (encS s), .c (encW w)] m = some (.c (.v (.int .i64 (wrightE s w))), m) := by
  have hro1 : ro ≤ m.length + 1 := by omega
  refine evL_by (n := 61) (by kernel_rfl) rfl fn11 rfl rfl rfl rfl ?_
  have h := fun ro m => sized_ev s w.sizes hs hw.sizes ro m
  unfold wrightE
  by_cases h0 : sizedE s w.sizes = 0
  · obtain ⟨hp, hsg, hbd⟩ := sizedE_ok hs h0
    rw [h0] at h ⊢
    have cz : ((0 : Int) != 0) = false := rfl
    rw [if_neg (by simp)]
    have hsz := fun ro m => sizes_ev s w.sizes hp ro m
    by_cases h1 : w.tables.length = s.funs.length
    · have c1 : ((w.tables.length : Int) != (s.funs.length : Int)) = false := bneI_f (by omega)
      rw [if_neg (by simpa using h1)]
      have hl := hs.funs
      rw [maxLen_eq] at hl
      simp only [go_sem, ↓reduceIte, h, cz, c1, hsz, hro, hro1]
      generalize hL : loopW _ _ = L
      have hle := fstI_le (tabE s w) s.funs.length
      have hva := fun f (hf : f.args.length ≤ maxLen) ro m hro => values_ev s.sorts w.sizes f hp.len (sizeI_bd hbd) hf ro m hro
      simp only [sizesC_def] at hva
      obtain ⟨i, k1, hE, rfl⟩ := loopW_at hL (fun i : Nat => [(31, .c (.v (.int .i64 i)))]) (fun _ => [(6, [.c (.mp (keysC s.sorts) (valsC w.sizes))])] :: m) (fun i => i ≤ fstI (tabE s w) s.funs.length) (fun i => i = fstI (tabE s w) s.funs.length) (fun i => s.funs.length - i) 0 rfl rfl (by omega) (by
        rintro i k1 hE
        obtain ⟨f, hx⟩ : ∃ x, s.funs[i]? = some x := ⟨_, List.getElem?_eq_getElem (by omega)⟩
        obtain ⟨t, ht⟩ : ∃ x, w.tables[i]? = some x := ⟨_, List.getElem?_eq_getElem (by omega)⟩
        have c2 : decide ((i : Int) < (s.funs.length : Int)) = true := dec_t (by omega)
        have c3 : IntKind.i64.wrap ((i : Int) + 1) = ((i + 1 : Nat) : Int) := wrap64 (by omega) (by omega)
        have c4 := fstI_not (e := tabE s w) (n := s.funs.length) (i := i) (by omega)
        simp only [tabE, hx, ht] at c4
        have hv := hva f (hs.fun_ f (List.mem_of_getElem? hx)).args
        have hoc := fun fr (hh : lk fr 6 = some [.c (.mp (keysC s.sorts) (valsC w.sizes))]) (hf8 : lk fr 8 = some (boxF f)) => ocontains_ev s.sorts w.sizes f hp.len t (hw.each t (List.mem_of_getElem? ht)) m.length (fr :: m) ro hro (by simp) (look_top.trans hh) (look_top.trans hf8)
        generalize valuesI s.sorts w.sizes f = n at c4 hv
        generalize t.any (outB (sizeI s.sorts w.sizes f.res)) = b at c4 hoc
        have k2 : ¬ 4096 < n := by intro hc; rw [if_pos hc] at c4; cases c4
        rw [if_neg k2] at c4
        have k3 : (t.length : Int) = n := by
          by_cases hc : (t.length : Int) = n
          · exact hc
          · rw [if_pos (by simpa using hc)] at c4; cases c4
        rw [if_neg (by simpa using k3)] at c4
        have k4 : b = false := by cases b <;> simp at c4 ⊢
        subst k4
        have d2 : decide (n > 4096) = false := dec_f (by omega)
        have d3 : ((t.length : Int) != n) = false := bneI_f k3
        have ho := hoc [(6, [.c (.mp (keysC s.sorts) (valsC w.sizes))]), (8, boxF f)] rfl rfl
        simp only [boxF] at ho
        refine ⟨i + 1, by omega, by omega, ?_⟩
        rw [round_go]
        simp only [go_sem, ↓reduceIte, c2, c3, hx, ht, hv, d2, d3, encL_def, ho, hro, hro1])
      clear hL
      rw [loopW_go]
      unfold fstE
      rw [← hE]
      by_cases hi : i < s.funs.length
      · obtain ⟨f, hx⟩ : ∃ x, s.funs[i]? = some x := ⟨_, List.getElem?_eq_getElem hi⟩
        obtain ⟨t, ht⟩ : ∃ x, w.tables[i]? = some x := ⟨_, List.getElem?_eq_getElem (by omega)⟩
        have c2 : decide ((i : Int) < (s.funs.length : Int)) = true := dec_t (by omega)
        have c4 := fstI_is (e := tabE s w) (n := s.funs.length) (by omega)
        rw [← hE] at c4
        rw [if_pos hi]
        simp only [tabE, hx, ht] at c4 ⊢
        have hv := hva f (hs.fun_ f (List.mem_of_getElem? hx)).args
        have hoc := fun fr (hh : lk fr 6 = some [.c (.mp (keysC s.sorts) (valsC w.sizes))]) (hf8 : lk fr 8 = some (boxF f)) => ocontains_ev s.sorts w.sizes f hp.len t (hw.each t (List.mem_of_getElem? ht)) m.length (fr :: m) ro hro (by simp) (look_top.trans hh) (look_top.trans hf8)
        generalize valuesI s.sorts w.sizes f = n at c4 hv ⊢
        generalize t.any (outB (sizeI s.sorts w.sizes f.res)) = b at c4 hoc ⊢
        have ho := hoc [(6, [.c (.mp (keysC s.sorts) (valsC w.sizes))]), (8, boxF f)] rfl rfl
        simp only [boxF] at ho
        by_cases k2 : 4096 < n
        · have d2 : decide (n > 4096) = true := dec_t (by omega)
          rw [if_pos k2]
          simp only [go_sem, ↓reduceIte, c2, hx, ht, hv, d2, hro, hro1]
        · have d2 : decide (n > 4096) = false := dec_f (by omega)
          rw [if_neg k2] at c4 ⊢
          by_cases k3 : (t.length : Int) = n
          · have d3 : ((t.length : Int) != n) = false := bneI_f k3
            rw [if_neg (by simpa using k3)] at c4 ⊢
            have k4 : b = true := by cases b <;> simp at c4 ⊢
            subst k4
            simp only [go_sem, ↓reduceIte, c2, hx, ht, hv, d2, d3, encL_def, ho, hro, hro1]
          · have d3 : ((t.length : Int) != n) = true := bneI_t k3
            rw [if_pos (by simpa using k3)]
            simp only [go_sem, ↓reduceIte, c2, hx, ht, hv, d2, d3, encL_def, hro, hro1]
      · have c2 : decide ((i : Int) < (s.funs.length : Int)) = false := dec_f (by omega)
        rw [if_neg hi]
        simp only [go_sem, ↓reduceIte, c2]
    · have c1 : ((w.tables.length : Int) != (s.funs.length : Int)) = true := bneI_t (by omega)
      rw [if_pos (by simpa using h1)]
      simp only [go_sem, ↓reduceIte, h, cz, c1]
  · have c1 : (sizedE s w.sizes != 0) = true := bneI_t h0
    rw [if_pos h0]
    simp only [go_sem, ↓reduceIte, h, c1]
end Go.Eng
