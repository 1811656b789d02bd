-- own work: an evaluator of the program's code, and what it answers
import Derived.Test.YtjmbdejejlcklaaDoorV3
/- The first error of variables: the program's function and the reference's. -/
set_option maxRecDepth 100000
set_option linter.unusedVariables false
set_option linter.unusedSimpArgs false
namespace Go.Eng
open Go Go.Proofs
theorem look_lowV {fr : Fr} {m : Mem} {D t : Nat} (h : D < m.length) : look (fr :: m) D t = look m D t := by
  simp only [look]; rw [if_neg (by omega)]
def boxVa (v : Va) : Box := [.c (.v (.string v.nm)), .c (.v (.string v.so))]
theorem hasName_eq (v w : Va) : hasName w.nm v = beqS v.nm w.nm := rfl
set_option maxHeartbeats 4000000 in
theorem vars1_ev (v w : Va) (D : Nat) (m : Mem) (ro : Nat) (hro : ro ≤ D) (hD : D < m.length) (h6 : look m D 6 = some (boxVa w)) :
    evL Tryd.prog An ro 40 [.c (encV v), .p D 6 0] m = some (.c (.v (.bool (hasName w.nm v))), m) := by
  have hroD : ro ≤ m.length := by omega
  have e1 : (D = m.length) = False := by simp; omega
  have l1 : ∀ fr, look (fr :: m) D 6 = some [.c (.v (.string w.nm)), .c (.v (.string w.so))] := fun fr => (look_lowV hD).trans h6
  have hlt : decide (D < m.length + 1) = true := dec_t (by omega)
  refine evL_by (n := 9) (by kernel_rfl) rfl fn40 rfl rfl rfl rfl ?_
  simp only [go_sem, ↓reduceIte, l1, hro, hroD, e1, hlt, hasName]
set_option maxHeartbeats 4000000 in
theorem vindex_ev (vs : List Va) (w : Va) (hl : vs.length ≤ maxLen) (D : Nat) (m : Mem) (ro : Nat) (hro : ro ≤ D) (hD : D < m.length) (h6 : look m D 6 = some (boxVa w)) :
    evL Tryd.prog An ro 49 [.c (.sl (vs.map encV)), .fn (.func 40) [.p D 6 0]] m = some (.c (.v (.int .i64 (if idx (hasName w.nm) vs < vs.length then (idx (hasName w.nm) vs : Int) else -1))), m) := by
  rw [maxLen_eq] at hl
  have hroD : ro ≤ m.length := by omega
  have e1 : (D = m.length) = False := by simp; omega
  have hlt : decide (D < m.length + 1) = true := dec_t (by omega)
  have hlt2 : decide (D < m.length + 1 + 1) = true := dec_t (by omega)
  have h1' := fun v fr => vars1_ev v w D (fr :: m) ro hro (by simp; omega) ((look_lowV hD).trans h6)
  refine evL_by (n := 19) (by kernel_rfl) rfl fn49 rfl rfl rfl rfl ?_
  simp only [go_sem, ↓reduceIte, hlt, hlt2, e1]
  generalize hL : loopW _ _ = L
  have hle := idx_le (hasName w.nm) vs
  obtain ⟨i, h1, hE, rfl⟩ := loopW_at hL (fun i : Nat => [(8, .c (.v (.int .i64 i)))]) (fun _ => [] :: m) (fun i => i ≤ idx (hasName w.nm) vs) (fun i => i = idx (hasName w.nm) vs) (fun i => vs.length - i) 0 rfl rfl (by omega) (by
    rintro i h1 hE
    obtain ⟨x, hx⟩ : ∃ x, vs[i]? = some x := ⟨_, List.getElem?_eq_getElem (by omega)⟩
    have c1 : decide ((i : Int) < (vs.length : Int)) = true := dec_t (by omega)
    have c3 : IntKind.i64.wrap ((i : Int) + 1) = ((i + 1 : Nat) : Int) := wrap64 (by omega) (by omega)
    have c2 := idx_not (hasName w.nm) vs i x (by omega) hx
    refine ⟨i + 1, by omega, by omega, ?_⟩
    rw [round_go]
    simp only [go_sem, ↓reduceIte, c1, c2, c3, hx, h1', hro, hroD, e1, hlt, hlt2])
  clear hL
  subst hE
  rw [loopW_go]
  by_cases hi : idx (hasName w.nm) vs < vs.length
  · obtain ⟨x, hx⟩ : ∃ x, vs[idx (hasName w.nm) vs]? = some x := ⟨_, List.getElem?_eq_getElem hi⟩
    have c1 : decide ((idx (hasName w.nm) vs : Int) < (vs.length : Int)) = true := dec_t (by omega)
    have c2 := idx_is _ _ x hx
    simp only [go_sem, ↓reduceIte, c1, c2, hx, h1', if_pos hi, hro, hroD, e1, hlt, hlt2]
  · have c1 : decide ((idx (hasName w.nm) vs : Int) < (vs.length : Int)) = false := dec_f (by omega)
    simp only [go_sem, ↓reduceIte, c1, if_neg hi, hro, hroD, e1, hlt, hlt2]
theorem idx_any_iff {α : Type} (p : α → Bool) (l : List α) : decide (0 ≤ (if idx p l < l.length then (idx p l : Int) else -1)) = l.any p := by
  rw [← idx_any]
  split
  · rename_i h; rw [dec_t h, dec_t (by omega)]
  · rename_i h; rw [dec_f h]; rfl
set_option maxHeartbeats 4000000 in
theorem vcontains_ev (vs : List Va) (w : Va) (hl : vs.length ≤ maxLen) (D : Nat) (m : Mem) (ro : Nat) (hro : ro ≤ D) (hD : D < m.length) (h6 : look m D 6 = some (boxVa w)) :
    evL Tryd.prog An ro 39 [.c (.sl (vs.map encV)), .fn (.func 40) [.p D 6 0]] m = some (.c (.v (.bool (vs.any (hasName w.nm)))), m) := by
  have hroD : ro ≤ m.length := by omega
  have e1 : (D = m.length) = False := by simp; omega
  have hlt : decide (D < m.length + 1) = true := dec_t (by omega)
  have hlt2 : decide (D < m.length + 1 + 1) = true := dec_t (by omega)
  have h1' := fun fr => vindex_ev vs w hl D (fr :: m) ro hro (by simp; omega) ((look_lowV hD).trans h6)
  refine evL_by (n := 9) (by kernel_rfl) rfl fn39 rfl rfl rfl rfl ?_
  rw [← idx_any_iff]
  simp only [go_sem, ↓reduceIte, ge_iff_le, h1', hro, hroD, e1, hlt, hlt2]
def badV (s : Sg) (pre : List Va) (v : Va) : Int := if (!nameS v.nm || (findF s v.nm).2) = true then 10 else if thingS s v.so = false then 11 else if pre.any (hasName v.nm) = true then 4 else 0
def varsGo (s : Sg) : List Va → List Va → Int
  | _, [] => 0
  | pre, v :: r => if badV s pre v = 0 then varsGo s (pre ++ [v]) r else badV s pre v
def varsE (s : Sg) (vs : List Va) : Int := if 256 < vs.length then 2 else varsGo s [] vs
theorem take_one {α : Type} {l : List α} {i : Nat} {x : α} (h : l[i]? = some x) : l.take (i + 1) = l.take i ++ [x] := by
  obtain ⟨hi, rfl⟩ := List.getElem?_eq_some_iff.1 h
  exact List.take_succ_eq_append_getElem hi
theorem headOK_V (l : List Va) : headOK 2 (l.map encV) = true := by cases l <;> rfl
attribute [go_sem] headOK_V
set_option maxHeartbeats 8000000 in
theorem vars_ev (s : Sg) (vs : List Va) (hs : okS s) (hs2 : s.sorts.length ≤ 2000000) (hv : ∀ v ∈ vs, okV v) (hl : vs.length ≤ maxLen) (ro : Nat) (m : Mem) (hro : ro ≤ m.length) :
    evL Tryd.prog An ro 22 [.c (encS s), .c (.sl (vs.map encV))] m = some (.c (.v (.int .i64 (varsE s vs))), m) := by
  rw [maxLen_eq] at hl
  refine evL_by (n := 52) (by kernel_rfl) rfl fn22 rfl rfl rfl rfl ?_
  unfold varsE
  have hro1 : ro ≤ m.length + 1 := by omega
  have hf := fun nm (m : Mem) (h : ro ≤ m.length) => f35_ev s nm hs.funs ro m h
  have ht := fun nm (m : Mem) => f38_ev s nm hs2 ro m
  by_cases h256 : 256 < vs.length
  · have d : decide (256 < (vs.length : Int)) = true := dec_t (by omega)
    rw [if_pos h256]
    simp only [go_sem, ↓reduceIte, gt_iff_lt, d]
  have d : decide (256 < (vs.length : Int)) = false := dec_f (by omega)
  rw [if_neg h256]
  simp only [go_sem, ↓reduceIte, gt_iff_lt, d]
  generalize hL : loopW _ _ = L
  have hcon : ∀ (i : Nat) (v : Va) fr, lk fr 6 = some [.c (.v (.string v.nm)), .c (.v (.string v.so))] →
      evL Tryd.prog An ro 39 [.c (.sl ((vs.map encV).take i)), .fn (.func 40) [.p m.length 6 0]] (fr :: m) = some (.c (.v (.bool ((vs.take i).any (hasName v.nm)))), fr :: m) := fun i v fr h => by
    rw [← List.map_take]
    exact vcontains_ev (vs.take i) v (by rw [maxLen_eq, List.length_take]; omega) m.length (fr :: m) ro hro (by simp) (look_top.trans h)
  obtain ⟨i, ⟨k1, k2⟩, hE, rfl⟩ := loopW_at hL (fun i : Nat => [(14, .c (.v (.int .i64 i)))]) (fun _ => [] :: m) (fun i => i ≤ vs.length ∧ varsGo s [] vs = varsGo s (vs.take i) (vs.drop i)) (fun i => i = vs.length ∨ ∃ v, vs[i]? = some v ∧ badV s (vs.take i) v ≠ 0) (fun i => vs.length - i) 0 rfl rfl ⟨by omega, by simp⟩ (by
    rintro i ⟨k1, k2⟩ hE
    simp only [not_or, not_exists, not_and] at hE
    obtain ⟨k3, k4⟩ := hE
    obtain ⟨v, hx⟩ : ∃ v, vs[i]? = some v := ⟨_, List.getElem?_eq_getElem (by omega)⟩
    have hok := hv v (List.mem_of_getElem? hx)
    have c1 : decide ((i : Int) < (vs.length : Int)) = true := dec_t (by omega)
    have c3 : IntKind.i64.wrap ((i : Int) + 1) = ((i + 1 : Nat) : Int) := wrap64 (by omega) (by omega)
    have c4 : (i : Int) ≤ (vs.length : Int) := by omega
    have c2 : badV s (vs.take i) v = 0 := by have := k4 v hx; omega
    have hn := name_ev v.nm hok.nm
    have hw := word_ev v.nm hok.nm
    have hc := hcon i v
    have ⟨a1, a2, a3, a4, a5⟩ : nameL v.nm.data.toList = true ∧ wordL v.nm.data.toList = false ∧ (findF s v.nm).2 = false ∧ thingS s v.so = true ∧ (vs.take i).any (hasName v.nm) = false := by
      unfold badV nameS at c2
      cases h1 : nameL v.nm.data.toList <;> cases h2 : wordL v.nm.data.toList <;> cases h3 : (findF s v.nm).2 <;> cases h4 : thingS s v.so <;> cases h5 : (vs.take i).any (hasName v.nm) <;> simp [h1, h2, h3, h4, h5] at c2 ⊢
    rw [a1] at hn
    rw [a2] at hw
    rw [a5] at hc
    refine ⟨i + 1, ⟨by omega, ?_⟩, by omega, ?_⟩
    · rw [k2, drop_get hx, varsGo, if_pos c2, take_one hx]
    · rw [round_go]
      simp only [go_sem, ↓reduceIte, c1, c3, c4, hx, hf, ht, hn, hw, hc, a3, a4, hro, hro1, noFun])
  clear hL
  rw [loopW_go, k2]
  by_cases hi : i = vs.length
  · subst hi
    have c1 : decide ((vs.length : Int) < (vs.length : Int)) = false := dec_f (by omega)
    rw [List.drop_length, varsGo]
    simp only [go_sem, ↓reduceIte, c1]
  · obtain ⟨v, hx, hb⟩ := hE.resolve_left hi
    have hok := hv v (List.mem_of_getElem? hx)
    have c1 : decide ((i : Int) < (vs.length : Int)) = true := dec_t (by omega)
    have c4 : (i : Int) ≤ (vs.length : Int) := by omega
    have hn := name_ev v.nm hok.nm
    have hw := word_ev v.nm hok.nm
    have hc := hcon i v
    rw [drop_get hx, varsGo, if_neg hb]
    unfold badV nameS
    cases h1 : nameL v.nm.data.toList with
    | false =>
      rw [h1] at hn
      simp only [go_sem, ↓reduceIte, c1, c4, hx, hf, hn, hro, hro1, noFun]
    | true =>
      rw [h1] at hn
      cases h2 : wordL v.nm.data.toList with
      | true =>
        rw [h2] at hw
        simp only [go_sem, ↓reduceIte, c1, c4, hx, hf, hn, hw, hro, hro1, noFun]
      | false =>
        rw [h2] at hw
        cases h3 : (findF s v.nm).2 with
        | true => simp only [go_sem, ↓reduceIte, c1, c4, hx, hf, hn, hw, h3, hro, hro1, noFun]
        | false =>
          cases h4 : thingS s v.so with
          | false => simp only [go_sem, ↓reduceIte, c1, c4, hx, hf, hn, hw, h3, h4, ht, hro, hro1, noFun]
          | true =>
            cases h5 : (vs.take i).any (hasName v.nm) with
            | false => exact absurd (by unfold badV nameS; simp [h1, h2, h3, h4, h5]) hb
            | true =>
              rw [h5] at hc
              simp only [go_sem, ↓reduceIte, c1, c4, hx, hf, hn, hw, hc, h3, h4, ht, hro, hro1, noFun]
end Go.Eng
