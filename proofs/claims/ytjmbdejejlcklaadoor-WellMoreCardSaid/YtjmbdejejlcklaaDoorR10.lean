-- own work: an evaluator of the program's code, and what it answers
import Derived.Test.YtjmbdejejlcklaaDoorR9
set_option maxRecDepth 100000
set_option linter.unusedVariables false
set_option linter.unusedSimpArgs false
namespace Go.Eng
open Go Go.Proofs
theorem len_sizeTs : ∀ l : List Tm, l.length ≤ sizeTs l
  | [] => Nat.zero_le _
  | x :: r => by
    have := len_sizeTs r
    have h := sizeT_eq x
    simp only [List.length_cons, sizeTs]; omega
theorem len_sizeCs : ∀ l : List Cl, l.length ≤ sizeCs l
  | [] => Nat.zero_le _
  | x :: r => by
    have := len_sizeCs r
    have h := sizeC_eqn x
    simp only [List.length_cons, sizeCs]; omega
theorem sizeCs_mem {l : List Cl} {x : Cl} (h : x ∈ l) : sizeC x ≤ sizeCs l := by
  induction l with
  | nil => cases h
  | cons y r ih =>
    simp only [sizeCs]
    rcases List.mem_cons.1 h with rfl | h
    · omega
    · have := ih h; omega
theorem sizeTs_mem {l : List Tm} {x : Tm} (h : x ∈ l) : sizeT x ≤ sizeTs l := by
  induction l with
  | nil => cases h
  | cons y r ih =>
    simp only [sizeTs]
    rcases List.mem_cons.1 h with rfl | h
    · omega
    · have := ih h; omega
theorem tail_int {k : Int} {r : List Int} : (((k :: r).length : Nat) : Int).toNat - Int.toNat 1 = r.length := by simp
theorem leadsT_step (t : Tm) (l : List Int) (i : Nat) (k : Int) (h : l[i]? = some k) : leadsT t (l.drop i) = (decide (0 ≤ k) && decide (k < t.l.length) && leadsT (t.l.getD k.toNat noT) (l.drop (i + 1))) := by
  rw [drop_get h, leadsT]
def boxTm (t : Tm) (m : Mem) : Mem := [(6, [.c (.v (.int .i64 t.op)), .c (.v (.string t.nm)), .c (.v (.int .i64 t.nu)), .c (.sl (t.l.map encT))])] :: m
attribute [go_sem] boxTm
set_option maxHeartbeats 8000000 in
theorem leads_ev (c : Cl) (hc : okC c) (hz : sizeC c ≤ 10000) (way : List Int) (hw : way.length ≤ 1000000) (ro : Nat) (m : Mem) (hro : ro ≤ m.length) :
    evL Tryd.prog An ro 21 [.c (encC c), .c (.sl (way.map cI))] m = some (.c (.v (.bool (leadsC c way))), m) := by
  induction hd : SizeOf.sizeOf c using Nat.strongRecOn generalizing c way ro m with
  | _ d ih =>
  have he := sizeC_eqn c
  have hts := len_sizeTs c.ts
  have hss := len_sizeCs c.ss
  have hro1 : ro ≤ m.length + 1 := by omega
  refine evL_by (n := 78) (by kernel_rfl) rfl fn21 rfl rfl rfl rfl ?_
  cases way with
  | nil => simp only [go_sem, ↓reduceIte, leadsC, Int.cast_ofNat_Int, Int.reduceBEq]
  | cons k r =>
    have c0 : (((r.length + 1 : Nat) : Int) == 0) = false := by simp; omega
    have hr : r.length + 1 ≤ 1000000 := by simpa using hw
    have w1 : IntKind.i64.wrap ((c.ts.length : Int) + (c.ss.length : Int)) = (c.ts.length : Int) + c.ss.length := wrap64 (by omega) (by omega)
    simp only [leadsC]
    by_cases h1 : k < 0
    · have d1 : decide (k < 0) = true := dec_t h1
      have d2 : decide (0 ≤ k) = false := dec_f (by omega)
      simp only [go_sem, ↓reduceIte, c0, d1, d2]
    · have d1 : decide (k < 0) = false := dec_f h1
      have d2 : decide (0 ≤ k) = true := dec_t (by omega)
      by_cases h2 : k ≥ (c.ts.length : Int) + c.ss.length
      · have d3 : decide (k ≥ (c.ts.length : Int) + c.ss.length) = true := dec_t h2
        have d4 : decide (k < (c.ts.length : Int) + c.ss.length) = false := dec_f (by omega)
        simp only [go_sem, ↓reduceIte, c0, d1, d2, d3, d4, w1]
      · have d3 : decide (k ≥ (c.ts.length : Int) + c.ss.length) = false := dec_f h2
        have d4 : decide (k < (c.ts.length : Int) + c.ss.length) = true := dec_t (by omega)
        by_cases h3 : k ≥ (c.ts.length : Int)
        · have d5 : decide (k ≥ (c.ts.length : Int)) = true := dec_t h3
          have h5 : ¬ k < (c.ts.length : Int) := by omega
          have w2 : IntKind.i64.wrap (k - (c.ts.length : Int)) = k - c.ts.length := wrap64 (by omega) (by omega)
          have h0 : 0 ≤ k - (c.ts.length : Int) := by omega
          obtain ⟨x, hx⟩ : ∃ x, c.ss[(k - (c.ts.length : Int)).toNat]? = some x := ⟨_, List.getElem?_eq_getElem (by omega)⟩
          have hmem := List.mem_of_getElem? hx
          have hg : c.ss.getD (k - (c.ts.length : Int)).toNat noC = x := by rw [List.getD_eq_getElem?_getD, hx]; rfl
          have hsz := sizeCs_mem hmem
          have hrec := fun (ro : Nat) (m : Mem) (hro : ro ≤ m.length) => ih _ (by have := Cl.lt hmem; omega) x (hc.arg.2 x hmem) (by omega) r (by omega) ro m hro rfl
          have hle1 : (1 : Int) ≤ ((r.length + 1 : Nat) : Int) := by omega
          have hle2 : (0 : Int) ≤ 1 := by omega
          have hsub : r.length + 1 - 1 = r.length := by omega
          rw [hg, if_neg h5]
          simp only [go_sem, ↓reduceIte, c0, d1, d2, d3, d4, d5, w1, w2, h0, hx, hle1, hle2, hsub, hrec, hro, hro1]
        · have d5 : decide (k ≥ (c.ts.length : Int)) = false := dec_f h3
          have h5 : k < (c.ts.length : Int) := by omega
          have hk0 : 0 ≤ k := by omega
          obtain ⟨x, hx⟩ : ∃ x, c.ts[k.toNat]? = some x := ⟨_, List.getElem?_eq_getElem (by omega)⟩
          have hg : c.ts.getD k.toNat noT = x := by rw [List.getD_eq_getElem?_getD, hx]; rfl
          rw [hg, if_pos h5]
          have hsz := sizeTs_mem (List.mem_of_getElem? hx)
          simp only [go_sem, ↓reduceIte, c0, d1, d2, d3, d4, d5, w1, hk0, hx, hro, hro1]
          generalize hL : loopW _ _ = L
          obtain ⟨⟨i, t⟩, ⟨k1, k2, k3⟩, hE, rfl⟩ := loopW_at hL (fun (q : Nat × Tm) => [(7, .c (.v (.int .i64 ((q.1 + 1 : Nat) : Int))))]) (fun q => boxTm q.2 m) (fun q => q.1 ≤ r.length ∧ sizeT q.2 ≤ 10000 ∧ leadsT x r = leadsT q.2 (r.drop q.1))
            (fun q => q.1 = r.length ∨ ∃ w, r[q.1]? = some w ∧ (w < 0 ∨ (q.2.l.length : Int) ≤ w)) (fun q => r.length - q.1) (0, x) rfl rfl ⟨by simp, by simp only; omega, by simp⟩ (by
            rintro ⟨i, t⟩ ⟨k1, k2, k3⟩ hE
            simp only [not_or, not_exists, not_and] at hE k1 k2 k3
            obtain ⟨k4, k5⟩ := hE
            obtain ⟨w, hwi⟩ : ∃ w, r[i]? = some w := ⟨_, List.getElem?_eq_getElem (by omega)⟩
            obtain ⟨k6, k7⟩ := k5 w hwi
            obtain ⟨y, hy⟩ : ∃ y, t.l[w.toNat]? = some y := ⟨_, List.getElem?_eq_getElem (by omega)⟩
            have hgy : t.l.getD w.toNat noT = y := by rw [List.getD_eq_getElem?_getD, hy]; rfl
            have hsy := sizeTs_mem (List.mem_of_getElem? hy)
            have hte := sizeT_eq t
            have e1 : decide (((i + 1 : Nat) : Int) < ((r.length + 1 : Nat) : Int)) = true := dec_t (by omega)
            have e2 : decide (w < 0) = false := dec_f k6
            have e3 : decide (w ≥ (t.l.length : Int)) = false := dec_f (by omega)
            have e4 : 0 ≤ w := by omega
            have e5 : IntKind.i64.wrap (((i + 1 : Nat) : Int) + 1) = ((i + 1 + 1 : Nat) : Int) := wrap64 (by omega) (by omega)
            have e6 : (C.v (Value.int IntKind.i64 k) :: List.map cI r)[i + 1]? = some (cI w) := by simp [hwi]
            refine ⟨(i + 1, y), ⟨by simp only; omega, by simp only; omega, ?_⟩, by simp only; omega, ?_⟩
            · rw [k3, leadsT_step t r i w hwi, hgy, dec_t e4, dec_t (show w < (t.l.length : Int) by omega)]; simp
            · rw [round_go]
              simp only [go_sem, ↓reduceIte, e1, e2, e3, e4, e5, e6, hwi, hy, Option.map_some, cI, hro, hro1])
          clear hL
          simp only at k1 k2 k3 hE
          rw [loopW_go, k3]
          by_cases hi : i = r.length
          · subst hi
            have e1 : decide (((r.length + 1 : Nat) : Int) < ((r.length + 1 : Nat) : Int)) = false := dec_f (by omega)
            rw [List.drop_length]
            simp only [go_sem, ↓reduceIte, e1, d2, d4, leadsT]
          · obtain ⟨w, hwi, hbad⟩ := hE.resolve_left hi
            have hil := (List.getElem?_eq_some_iff.1 hwi).1
            have e1 : decide (((i + 1 : Nat) : Int) < ((r.length + 1 : Nat) : Int)) = true := dec_t (by omega)
            have hfalse : leadsT t (r.drop i) = false := by
              rw [leadsT_step t r i w hwi]
              rcases hbad with h | h
              · rw [dec_f (show ¬ 0 ≤ w by omega)]; simp
              · rw [dec_f (show ¬ w < (t.l.length : Int) by omega)]; simp
            rw [hfalse]
            by_cases hneg : w < 0
            · have e2 : decide (w < 0) = true := dec_t hneg
              simp only [go_sem, ↓reduceIte, e1, e2, hwi, Option.map_some, cI, hro, hro1]
            · have e2 : decide (w < 0) = false := dec_f hneg
              have e3 : decide (w ≥ (t.l.length : Int)) = true := dec_t (by omega)
              simp only [go_sem, ↓reduceIte, e1, e2, e3, hwi, Option.map_some, cI, hro, hro1]
theorem headOK_V (l : List Va) : headOK 2 (l.map encV) = true := by cases l <;> rfl
attribute [go_sem] headOK_V
theorem V_append (l l2 : List Va) : List.map encV l ++ List.map encV l2 = List.map encV (l ++ l2) := by simp
end Go.Eng
