-- own work: an evaluator of the program's code, and what it answers
import Derived.Test.YtdmoipccmbimhaaGreatDoorWellA
set_option maxRecDepth 100000
set_option linter.unusedVariables false
set_option linter.unusedSimpArgs false
namespace Go.Eng
open Go Go.Proofs
theorem restW_nil {s : Sg} {vs : List Va} {bs : List ByteArray} {way : List Int} {i : Nat} {out : List ByteArray} : restW s vs bs way i out [] = (out, [], 0) := by
  simp [restW, allW]
theorem restW_bad {s : Sg} {vs : List Va} {bs : List ByteArray} {way : List Int} {i : Nat} {out : List ByteArray} {x : Tm} {r : List Tm} (h : (termW s vs bs (way ++ [(i : Int)]) x).2.2 ≠ 0) :
    restW s vs bs way i out (x :: r) = ([], (termW s vs bs (way ++ [(i : Int)]) x).2) := by
  simp only [restW, allW, if_pos h]
theorem restW_good {s : Sg} {vs : List Va} {bs : List ByteArray} {way : List Int} {i : Nat} {out : List ByteArray} {x : Tm} {r : List Tm} (h : ¬ (termW s vs bs (way ++ [(i : Int)]) x).2.2 ≠ 0) :
    restW s vs bs way i out (x :: r) = restW s vs bs way (i + 1) (out ++ [(termW s vs bs (way ++ [(i : Int)]) x).1]) r := by
  simp only [restW, allW, if_neg h]
  by_cases h2 : (allW s vs bs way (i + 1) r).2.2 ≠ 0
  · simp only [if_pos h2]
  · simp only [if_neg h2]; simp
theorem restW_0 {s : Sg} {vs : List Va} {bs : List ByteArray} {way : List Int} {l : List Tm} : restW s vs bs way 0 [] l = allW s vs bs way 0 l := by
  unfold restW
  split
  · rename_i h; rw [← allW_err h]
  · rename_i h
    have h0 : (allW s vs bs way 0 l).2.2 = 0 := by simpa using h
    obtain ⟨_, h2⟩ := allW_ok h0
    generalize allW s vs bs way 0 l = q at *
    obtain ⟨a, b, c⟩ := q
    simp only at h0 h2
    subst h0; subst h2
    simp
set_option maxHeartbeats 4000000 in
theorem f51_ev (s : Sg) (vs : List Va) (bs : List ByteArray) (way : List Int) (l : List Tm) (hw : way.length ≤ 100000) (hl : l.length ≤ 100000) (ro : Nat) (m : Mem) (hro : ro ≤ m.length)
    (ht : ∀ x ∈ l, ∀ (k : Int) ro m, ro ≤ m.length → evL Tryz.prog An ro 130 [.c (encR s vs bs), .c (.sl ((way ++ [k]).map cI)), .c (encT x)] m = some (.tup (encN (termW s vs bs (way ++ [k]) x)), m)) :
    evL Tryz.prog An ro 121 [.c (encR s vs bs), .c (.sl (way.map cI)), .c (.sl (l.map encT))] m = some (.tup (encL3 (allW s vs bs way 0 l)), m) := by
  refine evL_by (n := 42) (by kernel_rfl) rfl fn121 rfl rfl rfl rfl ?_
  simp only [go_sem, ↓reduceIte]
  generalize hL : loopW _ _ = L
  obtain ⟨⟨i, out⟩, ⟨k1, k2, k3⟩, hE, rfl⟩ := loopW_at hL (fun (q : Nat × List ByteArray) => [(9, .tip (if q.1 = 0 then none else some 1) (q.2.map cS)), (17, .c (.v (.int .i64 q.1)))]) (fun _ => [] :: m)
    (fun q => q.1 ≤ l.length ∧ q.2.length = q.1 ∧ allW s vs bs way 0 l = restW s vs bs way q.1 q.2 (l.drop q.1))
    (fun q => q.1 = l.length ∨ ∃ x, l[q.1]? = some x ∧ (termW s vs bs (way ++ [(q.1 : Int)]) x).2.2 ≠ 0) (fun q => l.length - q.1) (0, []) rfl rfl ⟨by simp, rfl, by simp [restW_0]⟩ (by
    rintro ⟨i, out⟩ ⟨k1, k2, k3⟩ hE
    simp only [not_or, not_exists, not_and] at hE k1 k2 k3
    obtain ⟨k4, k5⟩ := hE
    obtain ⟨x, hx⟩ : ∃ x, l[i]? = some x := ⟨_, List.getElem?_eq_getElem (by omega)⟩
    have c1 : decide ((i : Int) < (l.length : Int)) = true := dec_t (by omega)
    have c3 : IntKind.i64.wrap ((i : Int) + 1) = ((i + 1 : Nat) : Int) := wrap64 (by omega) (by omega)
    have hc := fun ro m => ht x (List.mem_of_getElem? hx) (i : Int) ro m
    have k6 := k5 x hx
    have hrest := restW_good (out := out) (r := l.drop (i + 1)) k6
    generalize termW s vs bs (way ++ [(i : Int)]) x = q at hc k6 hrest
    obtain ⟨so, at_, e⟩ := q
    simp only at k6 hrest
    have c2 : (e != 0) = false := by simpa using k6
    have c4 : (i + 1 = 0) = False := by simp
    have c5 : (out.length + 1) * 16 ≤ 140737488355328 := by omega
    have c6 : out.length + 1 ≤ 9223372036854775807 := by omega
    refine ⟨(i + 1, out ++ [so]), ⟨by simp only; omega, by simp [k2], ?_⟩, by simp only; omega, ?_⟩
    · rw [k3, drop_get hx, hrest]
    · have hos : (if i = 0 then none else some 1 : Option Nat) = none ∨ (if i = 0 then none else some 1 : Option Nat) = some 1 := by split <;> simp
      rw [round_go]
      simp only
      generalize (if i = 0 then none else some 1 : Option Nat) = os at hos ⊢
      have hro1 : ro ≤ m.length + 1 := by omega
      simp only [go_sem, ↓reduceIte, c1, c2, c3, c4, c5, c6, hos, hx, f67_ev _ _ (Nat.le_trans hw (by omega)), hc, encN, hro1, hro]
      rw [← map_snoc]; rfl)
  clear hL
  simp only at k1 k2 k3 hE
  have hro1 : ro ≤ m.length + 1 := by omega
  rw [loopW_go, k3]
  by_cases hi : i = l.length
  · have c1 : decide ((i : Int) < (l.length : Int)) = false := dec_f (by omega)
    rw [List.drop_eq_nil_of_le (by omega), restW_nil]
    simp only [go_sem, ↓reduceIte, c1, encL3]
  · obtain ⟨x, hx, hbad⟩ := hE.resolve_left hi
    have hil := (List.getElem?_eq_some_iff.1 hx).1
    have c1 : decide ((i : Int) < (l.length : Int)) = true := dec_t (by omega)
    have hc := fun ro m => ht x (List.mem_of_getElem? hx) (i : Int) ro m
    rw [drop_get hx, restW_bad hbad]
    generalize termW s vs bs (way ++ [(i : Int)]) x = q at hc hbad ⊢
    obtain ⟨so, at_, e⟩ := q
    simp only at hbad
    have c2 : (e != 0) = true := by simpa using hbad
    simp only [go_sem, ↓reduceIte, c1, c2, hx, f67_ev _ _ (Nat.le_trans hw (by omega)), hc, encN, encL3, hro1, hro]
/-- the sort of a term -/
theorem fitT.arg {d : Nat} {t x : Tm} (h : fitT (d + 1) t) (hx : x ∈ t.l) : fitT d x := by cases h with | mk _ _ _ _ _ r => exact r x hx
theorem termW_eq (s : Sg) (vs : List Va) (bs : List ByteArray) (way : List Int) (t : Tm) : termW s vs bs way t = if (allW s vs bs way 0 t.l).2.2 ≠ 0 then (noS, (allW s vs bs way 0 t.l).2.1, (allW s vs bs way 0 t.l).2.2) else ownW s vs bs way t.op t.nm t.nu (allW s vs bs way 0 t.l).1 := by
  cases t; rw [termW]; rfl
set_option maxHeartbeats 8000000 in
theorem f26_ev (s : Sg) (vs : List Va) (bs : List ByteArray) (hs : s.funs.length ≤ maxLen) (hv : vs.length ≤ maxLen) (hb : bs.length ≤ 100000) : ∀ (d : Nat) (t : Tm) (way : List Int), fitT d t → way.length + d ≤ 1000 → ∀ (ro : Nat) (m : Mem), ro ≤ m.length →
    evL Tryz.prog An ro 130 [.c (encR s vs bs), .c (.sl (way.map cI)), .c (encT t)] m = some (.tup (encN (termW s vs bs way t)), m)
  | 0, t, way, ht, _, _, _, _ => by cases ht
  | d + 1, t, way, ht, hw, ro, m, hro => by
    have hl8 : t.l.length ≤ 8 := by cases ht; assumption
    have hnu : t.op = 2 → 0 ≤ t.nu := by cases ht; assumption
    have h2r : t.op ≠ 3 → t.l.length ≤ 2 := by cases ht; assumption
    have hro1 : ro ≤ m.length + 1 := by omega
    have hall := fun ro m hro => f51_ev s vs bs way t.l (by omega) (by omega) ro m hro (fun x hx k ro m hro => f26_ev s vs bs hs hv hb d x (way ++ [k]) (ht.arg hx) (by simp; omega) ro m hro)
    rw [termW_eq]
    refine evL_by (n := 96) (by kernel_rfl) rfl fn130 rfl rfl rfl rfl ?_
    by_cases he : (allW s vs bs way 0 t.l).2.2 ≠ 0
    · rw [if_pos he]
      generalize allW s vs bs way 0 t.l = q at hall he ⊢
      obtain ⟨has, at_, e⟩ := q
      simp only at he
      have c2 : (e != 0) = true := by simpa using he
      simp only [go_sem, ↓reduceIte, c2, hall, encN, encL3, noS, hro1, hro]
    · rw [if_neg he]
      have hok := (allW_ok (s := s) (vs := vs) (bs := bs) (way := way) (l := t.l) (i := 0) (by simpa using he)).1
      generalize allW s vs bs way 0 t.l = q at hall he hok ⊢
      obtain ⟨has, at_, e⟩ := q
      simp only at he hok
      have c2 : (e != 0) = false := by simpa using he
      unfold ownW
      by_cases h1 : t.op = 1
      · have d1 : (t.op == 1) = true := by simp [h1]
        have hso := fun ro m => f48_ev vs t.nm hv ro m
        simp only [if_pos h1]
        generalize sortOf vs t.nm = so at hso ⊢
        cases so with
        | none => simp only [go_sem, ↓reduceIte, c2, d1, hall, hso, encO, encN, encL3, noS, hro1, hro]
        | some so => simp only [go_sem, ↓reduceIte, c2, d1, hall, hso, encO, encN, encL3, noS, hro1, hro]
      · have d1 : (t.op == 1) = false := by simp [h1]
        rw [if_neg h1]
        by_cases h2 : t.op = 2
        · have d2 : (t.op == 2) = true := by simp [h2]
          rw [if_pos h2]
          have hn := hnu h2
          by_cases h3 : (bs.length : Int) ≤ t.nu
          · have d3 : decide (t.nu ≥ (bs.length : Int)) = true := dec_t h3
            simp only [go_sem, ↓reduceIte, c2, d1, d2, d3, if_pos h3, hall, encN, encL3, noS, hro1, hro]
          · have d3 : decide (t.nu ≥ (bs.length : Int)) = false := dec_f h3
            have d4 : IntKind.i64.wrap ((bs.length : Int) - 1) = (bs.length : Int) - 1 := wrap64 (by omega) (by omega)
            have d5 : IntKind.i64.wrap ((bs.length : Int) - 1 - t.nu) = ((bs.length - 1 - t.nu.toNat : Nat) : Int) := (wrap64 (by omega) (by omega)).trans (by omega)
            obtain ⟨x, hx⟩ : ∃ x, bs[bs.length - 1 - t.nu.toNat]? = some x := ⟨_, List.getElem?_eq_getElem (by omega)⟩
            have d6 : bs.getD (bs.length - 1 - t.nu.toNat) noS = x := by rw [List.getD_eq_getElem?_getD, hx]; rfl
            rw [if_neg h3, d6]
            simp only [go_sem, ↓reduceIte, c2, d1, d2, d3, d4, d5, hx, hall, encN, encL3, noS, hro1, hro]
        · have d2 : (t.op == 2) = false := by simp [h2]
          rw [if_neg h2]
          by_cases h3 : t.op = 3
          · have d3 : (t.op == 3) = true := by simp [h3]
            rw [if_pos h3]
            have hf := fun ro m hro => f52_ev s vs bs t.nm false hs ro m hro
            generalize (findF s t.nm).1 = f at hf ⊢
            generalize ((findF s t.nm).2 && (beqS f.res sBool == false)) = ok at hf ⊢
            have ha := fun ro m => f53_ev s vs bs way f ok has (by omega) (by omega) ro m
            simp only [go_sem, ↓reduceIte, c2, d1, d2, d3, hall, hf, ha, encN, encL3, noS, hro1, hro]
          · have d3 : (t.op == 3) = false := by simp [h3]
            rw [if_neg h3]
            have hr := fun ro m => rep_ev sInt has.length (by have := h2r h3; omega) ro m
            have ha := fun ro m => f54_ev way 0 has (List.replicate has.length sInt) (by omega) (by simp) (by omega) (by omega) (by omega) ro m
            have hrep : (List.replicate has.length sInt).map cS = List.replicate has.length (.v (.string sInt)) := by rw [List.map_replicate]; rfl
            rw [hrep] at ha
            generalize askW way 0 0 has (List.replicate has.length sInt) = r at ha ⊢
            obtain ⟨at2, e2⟩ := r
            by_cases h4 : e2 = 0
            · have d4 : (e2 != 0) = false := by simp [h4]
              simp only [go_sem, ↓reduceIte, c2, d1, d2, d3, d4, hall, hr, ha, encA, encN, encL3, noS, hro1, hro]
              simp [h4]
            · have d4 : (e2 != 0) = true := by simpa using h4
              simp only [go_sem, ↓reduceIte, c2, d1, d2, d3, d4, hall, hr, ha, encA, encN, encL3, noS, hro1, hro]
              simp [h4]
end Go.Eng
