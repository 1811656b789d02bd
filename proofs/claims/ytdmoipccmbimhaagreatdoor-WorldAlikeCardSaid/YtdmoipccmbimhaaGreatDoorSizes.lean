-- own work: an evaluator of the program's code, and what it answers
import Derived.Test.YtdmoipccmbimhaaGreatDoorWord
/- The sizes of sorts, by their names: a map, laid entry by entry (a function told by hand). -/
set_option linter.unusedVariables false
set_option linter.unusedSimpArgs false
namespace Go.Eng
open Go Go.RowKit Go.Proofs
section
open Go.WideMaps Go.Maps Go.ChangeMaps
attribute [local go_sem] Oper.semAt_some
theorem cells2 {w : World} {g : Nat} {t : TypeId} {a b : Value} (h : w.heap[g]? = some (.cells #[a, b] t (0, 0))) : w.cell? ⟨g, 0, none⟩ = some a ∧ w.cell? ⟨g, 1, none⟩ = some b ∧ w.frozen? ⟨g, 0, none⟩ = false ∧ w.frozen? ⟨g, 1, none⟩ = false := ⟨(blk_cell h 0).trans rfl, (blk_cell h 1).trans rfl, blk_frozen h 0, blk_frozen h 1⟩
theorem cells3 {w : World} {g : Nat} {t : TypeId} {a b c : Value} (h : w.heap[g]? = some (.cells #[a, b, c] t (0, 0))) : w.cell? ⟨g, 0, none⟩ = some a ∧ w.cell? ⟨g, 1, none⟩ = some b ∧ w.cell? ⟨g, 2, none⟩ = some c ∧ w.frozen? ⟨g, 0, none⟩ = false ∧ w.frozen? ⟨g, 1, none⟩ = false ∧ w.frozen? ⟨g, 2, none⟩ = false := ⟨(blk_cell h 0).trans rfl, (blk_cell h 1).trans rfl, (blk_cell h 2).trans rfl, blk_frozen h 0, blk_frozen h 1, blk_frozen h 2⟩
/-- the entries of so many sorts -/
def entsL (so : List ByteArray) (l : List Int) (i : Nat) : List MapEntry := ⟨.string sBool, .int .i64 2, 0⟩ :: (List.range i).map fun j => ⟨.string (so.getD j ByteArray.empty), .int .i64 (l.getD j 0), j + 1⟩
theorem entsL_snoc (so : List ByteArray) (l : List Int) (i : Nat) : entsL so l (i + 1) = entsL so l i ++ [⟨.string (so.getD i ByteArray.empty), .int .i64 (l.getD i 0), i + 1⟩] := by
  simp [entsL, List.range_succ]
theorem getD_range {α : Type} (d : α) (l : List α) : (List.range l.length).map (fun j => l.getD j d) = l := by
  apply List.ext_getElem?
  intro i
  rw [List.getElem?_map]
  by_cases h : i < l.length
  · rw [List.getElem?_range h, List.getElem?_eq_getElem h]
    simp [List.getD, List.getElem?_eq_getElem h]
  · rw [List.getElem?_eq_none (by simp; omega), List.getElem?_eq_none (by omega)]; rfl
theorem entsL_keys (so : List ByteArray) (l : List Int) (h : l.length = so.length) : (entsL so l so.length).map (·.key) = (sBool :: so).map Value.string := by
  simp only [entsL, List.map_cons, List.map_map, List.cons.injEq, true_and]
  conv => rhs; rw [← getD_range ByteArray.empty so]
  simp [Function.comp_def]
theorem entsL_vals (so : List ByteArray) (l : List Int) (h : l.length = so.length) : (entsL so l so.length).map (·.val) = ((2 : Int) :: l).map (Value.int .i64) := by
  simp only [entsL, List.map_cons, List.map_map, List.cons.injEq, true_and]
  conv => rhs; rw [← getD_range 0 l, h]
  simp [Function.comp_def]
/-- a key that is new is laid behind the others -/
theorem run_push {P : Program} {w : World} {k e t : TypeId} (K : Keyed P k) (ht : P.underlying t = some (.map k e)) {b clock : Nat} {es : Array MapEntry} (hb : w.heap[b]? = some (.map es clock)) (hall : ∀ x ∈ es.toList, ∃ kl, keyOf P k x.key = some kl) {key val : Value} {kl : Lit}
    (hkey : keyOf P k key = some kl) (hnew : ∀ x ∈ es.toList, x.key ≠ key) : (Instr.mapUpdate t (.map (some b)) key val).run P w = .ok () (setBlock w b (.map (es.push ⟨key, val, clock⟩) (clock + 1))) := by
  rcases K.find w hkey es.toList hall with ⟨h1, h2⟩ | ⟨j, e0, h1, h2, h3⟩
  · simp [Instr.mapUpdate, run_underlying ht, MapKept.run_getObj_map hb, K.check w false hkey, h1, MapKept.run_setObj_map _ hb, Result.andThen, setBlock]
  · exact absurd h3 (hnew e0 (List.mem_of_getElem? h2))
theorem below_setBlock {n : Nat} {w W : World} (h : Below n w W) {b : Nat} (hb : n ≤ b) (o : Obj) : Below n w (setBlock W b o) := by
  refine ⟨h.1, h.2, h.3, by simpa [setBlock] using h.size, fun k hk => ?_⟩
  rw [← h.block k hk]
  have : b ≠ k := by omega
  simp [setBlock, Array.getElem?_setIfInBounds_ne this]
theorem wpList_push {P : Program} (w : World) {ops : Array Oper} {rest : List Oper} {o : Oper} {a : Act} {Q : Exit → Act → World → Prop}
    (hg : o.guard = none) (m x v : Operand) (t : TypeId) (hop : o.op = Op.mapUpdate t m x v ∨ o.op = Op.insert t m x v) (k e : TypeId) (K : Keyed P k) (ht : P.underlying t = some (.map k e)) (b clock : Nat) (es : Array MapEntry)
    (hm : a.eval m = .map (some b)) (hb : w.heap[b]? = some (.map es clock)) (hall : ∀ x ∈ es.toList, ∃ kl, keyOf P k x.key = some kl) (key val : Value) (kl : Lit) (hx : a.eval x = key) (hv : a.eval v = val) (hkey : keyOf P k key = some kl)
    (hnew : ∀ x ∈ es.toList, x.key ≠ key) (hK : ∀ w', w'.heap[b]? = some (.map (es.push ⟨key, val, clock⟩) (clock + 1)) → (∀ i o, i ≠ b → w.heap[i]? = some o → w'.heap[i]? = some o) → (∀ n w0, Below n w0 w → n ≤ b → Below n w0 w') → wpList P ops Q rest (a.put o.dst undef) w') : wpList P ops Q (o :: rest) a w := by
  refine wpList_plain hg fun K' hK' => ?_
  have hrun := run_push K ht hb hall hkey hnew (val := val)
  unfold Oper.wp
  rcases hop with hop | hop <;> simp [execOp, hop, hm, hx, hv, hrun, Result.andThen] <;> exact hK' _ _ (hK _ (heap_setBlock_same hb _) (fun i o hi ho => by rw [heap_setBlock_other hb _ hi]; exact ho) (fun n w0 h hn => below_setBlock h hn _))
theorem getD_inj (so : List ByteArray) (hnd : (sBool :: so).Nodup) (i : Nat) (hi : i < so.length) (l : List Int) : ∀ x ∈ (entsL so l i), x.key ≠ .string (so.getD i ByteArray.empty) := by
  intro x hx he
  have hb := List.nodup_cons.1 hnd
  have hgi : so.getD i ByteArray.empty = so[i] := by simp [List.getD, List.getElem?_eq_getElem hi]
  simp only [entsL, List.mem_cons, List.mem_map, List.mem_range] at hx
  rcases hx with rfl | ⟨j, hj, rfl⟩
  · simp only [Value.string.injEq] at he
    rw [hgi] at he
    exact hb.1 (he ▸ List.getElem_mem hi)
  · simp only [Value.string.injEq] at he
    have hgj : so.getD j ByteArray.empty = so[j]'(by omega) := by simp [List.getD, List.getElem?_eq_getElem (show j < so.length by omega)]
    rw [hgi, hgj] at he
    have := (List.getElem_inj hb.2).1 he
    omega
theorem adr_add (b o k : Nat) : (⟨b, o, none⟩ : Addr).add k = ⟨b, o + k, none⟩ := by
  unfold Addr.add
  by_cases h : k = 0 <;> simp [h]
/-- the texts of a list, as they stand in memory -/
def SC (w : World) (A : Option Addr) (l : List ByteArray) : Prop := l ≠ [] → ∃ b o s, A = some ⟨b, o, none⟩ ∧ RE (memF w) b o s (l.map cS)
def IC (w : World) (A : Option Addr) (l : List Int) : Prop := l ≠ [] → ∃ b o s, A = some ⟨b, o, none⟩ ∧ RE (memF w) b o s (l.map cI)
theorem SC.at {w0 W : World} {A : Option Addr} {l : List ByteArray} (h : SC w0 A l) (HB : Below w0.heap.size w0 W) (j : Nat) (hj : j < l.length) :
    ∃ ad, A = some ad ∧ W.cell? (ad.add j) = some (.string (l.getD j ByteArray.empty)) := by
  obtain ⟨b, o, s, rfl, hre⟩ := h (fun e => by rw [e] at hj; simp at hj)
  obtain ⟨vs, hvs, hat, hrc⟩ := RE.get hre (i := j) (y := cS l[j]) (by simp [List.getElem?_eq_getElem hj])
  simp only [cS, RC] at hrc
  obtain ⟨rfl, _⟩ := hrc
  obtain rfl : s = 1 := by simpa using hvs.symm
  have c0 := hat 0 _ rfl
  simp only [memF, Nat.add_zero, Nat.mul_one] at c0
  refine ⟨_, rfl, ?_⟩
  rw [adr_add, List.getD, List.getElem?_eq_getElem hj]
  exact (HB.cell (World.block_lt_of_cell? w0 _ c0)).trans c0
theorem IC.at {w0 W : World} {A : Option Addr} {l : List Int} (h : IC w0 A l) (HB : Below w0.heap.size w0 W) (j : Nat) (hj : j < l.length) :
    ∃ ad, A = some ad ∧ W.cell? (ad.add j) = some (.int .i64 (l.getD j 0)) := by
  obtain ⟨b, o, s, rfl, hre⟩ := h (fun e => by rw [e] at hj; simp at hj)
  obtain ⟨vs, hvs, hat, hrc⟩ := RE.get hre (i := j) (y := cI l[j]) (by simp [List.getElem?_eq_getElem hj])
  simp only [cI, RC] at hrc
  obtain ⟨rfl, _⟩ := hrc
  obtain rfl : s = 1 := by simpa using hvs.symm
  have c0 := hat 0 _ rfl
  simp only [memF, Nat.add_zero, Nat.mul_one] at c0
  refine ⟨_, rfl, ?_⟩
  rw [adr_add, List.getD, List.getElem?_eq_getElem hj]
  exact (HB.cell (World.block_lt_of_cell? w0 _ c0)).trans c0
set_option maxHeartbeats 3200000 in
set_option maxRecDepth 100000 in
theorem sizes_any (so : List ByteArray) (l : List Int) (A0 A1 A2 : Option Addr) (n1 c0 c1 c2 : Nat) (w : World) (hS : SC w A0 so) (hI : IC w A2 l) (hl : l.length = so.length) (hn : so.length ≤ 1000000) (hnd : (sBool :: so).Nodup) (hsz : ∀ x ∈ so, x.size ≤ maxLen) :
    Calls Tryz.prog 42 #[.agg #[.slice A0 so.length c0, .slice A1 n1 c1], .slice A2 l.length c2] w fun e w' => e = .returned (.map (some (w.heap.size + 1))) ∧ w'.heap[w.heap.size + 1]? = some (.map (entsL so l so.length).toArray (so.length + 1)) ∧ Below w.heap.size w w' := by
  have hmm := @run_makeMap Tryz.prog
  have HS := Aside0.mk hS
  have HI := Aside0.mk hI
  clear hS hI
  go_enter Tryz.func42, Tryz.ntmps42
  go_wp2_with (first
    | (refine wpList_push _ rfl _ _ _ 100 (.inr rfl) 9 3 law Tryz.underlying100 (w.heap.size + 1) 0 #[] rfl (by simpa using blk_new (w.alloc (.cells #[.slice A0 so.length c0, .slice A1 n1 c1] 25)) (.map #[] 0)) (by simp) (.string sBool) (.int .i64 2) _ rfl rfl (keyOf_string_mk Tryz.underlying9 (s := sBool) (by decide)) (by simp) ?_)
    | go_in)
  intro w1 hm1 hk1 hb1
  have X0 := Aside0.mk (hk1 w.heap.size _ (by omega) (blk_alloc (blk_new w (.cells #[.slice A0 so.length c0, .slice A1 n1 c1] 25)) (.map #[] 0)))
  have HB := Aside0.mk (hb1 w.heap.size w (below_alloc (below_alloc (Below.refl _ _) _) _) (by omega))
  have HM := Aside0.mk (show w1.heap[w.heap.size + 1]? = some (.map (entsL so l 0).toArray (0 + 1)) from hm1)
  clear hm1 hk1 hb1 hmm
  obtain ⟨p00, p01, g00, g01⟩ := cells2 X0.out
  go_wp2
  go_loopw [13] (fun i wr => ∃ k : Nat, k ≤ so.length ∧ i = .int .i64 k ∧ Aside0 (wr.heap[w.heap.size + 1]? = some (.map (entsL so l k).toArray (k + 1))) ∧ Aside0 (Below w.heap.size w wr)) (fun i _ => so.length - (intOf i).toNat)
  case atStart => exact ⟨0, Nat.zero_le _, rfl, HM, HB⟩
  case round =>
    clear HM HB X0 p00 p01 g00 g01
    obtain ⟨k, hk, rfl, HM, HB⟩ := hrel
    by_cases hlt : k < so.length
    · have d1 : decide ((k : Int) < (so.length : Int)) = true := decide_eq_true (by omega)
      have d2 : decide (k < so.length) = true := decide_eq_true hlt
      obtain ⟨ad, e1, hcx⟩ := HS.out.at HB.out k hlt
      obtain ⟨ad2, e2, hcy⟩ := HI.out.at HB.out k (by omega)
      cases e1
      cases e2
      obtain ⟨x, hx⟩ : ∃ x, x = so.getD k ByteArray.empty := ⟨_, rfl⟩
      obtain ⟨y, hy⟩ : ∃ y, y = l.getD k 0 := ⟨_, rfl⟩
      rw [← hx] at hcx
      rw [← hy] at hcy
      have hall : ∀ z ∈ (entsL so l k).toArray.toList, ∃ kl, keyOf Tryz.prog 9 z.key = some kl := by
        intro z hz
        simp only [entsL, List.mem_cons, List.mem_map, List.mem_range] at hz
        rcases hz with rfl | ⟨j, hj, rfl⟩
        · exact ⟨_, keyOf_string_mk Tryz.underlying9 (s := sBool) (by decide)⟩
        · refine ⟨_, keyOf_string_mk Tryz.underlying9 (s := so.getD j ByteArray.empty) ?_⟩
          rw [List.getD, List.getElem?_eq_getElem (show j < so.length by omega)]
          exact hsz _ (List.getElem_mem _)
      have hkey : keyOf Tryz.prog 9 (.string x) = some (.string x.data.toList) := by
        refine keyOf_string_mk Tryz.underlying9 ?_
        rw [hx, List.getD, List.getElem?_eq_getElem hlt]
        exact hsz _ (List.getElem_mem _)
      have hnew : ∀ z ∈ (entsL so l k).toArray.toList, z.key ≠ .string x := by
        rw [hx]; exact getD_inj so hnd k hlt l
      have hpush : entsL so l k ++ [⟨.string x, .int .i64 y, k + 1⟩] = entsL so l (k + 1) := by
        rw [hx, hy, entsL_snoc]
      have HX := Aside0.mk hx
      have HY := Aside0.mk hy
      have HP := Aside0.mk hpush
      have HA := Aside0.mk hall
      have HN := Aside0.mk hnew
      clear hx hy hpush hall hnew
      go_wp2_with (first
        | (at_mapUpdate; refine wpList_push _ rfl _ _ _ 100 (.inl rfl) 9 3 law Tryz.underlying100 (w.heap.size + 1) (k + 1) (entsL so l k).toArray rfl HM.out HA.out (.string x) (.int .i64 y) _ rfl rfl hkey HN.out ?_)
        | go_in)
      intro w2 hm2 hk2 hb2
      have HM2 := Aside0.mk (show w2.heap[w.heap.size + 1]? = some (.map (entsL so l (k + 1)).toArray (k + 1 + 1)) by rw [hm2, HP.out])
      have HB2 := Aside0.mk (hb2 w.heap.size w HB.out (by omega))
      clear hm2 hk2 hb2 HM HB HP HA HN hkey hcx hcy
      go_wp2
      go_roundw
      case rel => exact ⟨k + 1, by omega, by go_num, HM2, HB2⟩
      case measure => simp [intOf]; omega
    · have : k = so.length := by omega
      subst this
      go_wp2
      go_ret
      exact ⟨rfl, HM.out, HB.out⟩
/-- the map of sizes -/
def sizesC (so : List ByteArray) (l : List Int) : C := .mp ((sBool :: so).map Value.string) (((2 : Int) :: l).map cI)
/-- may sorts have such sizes? -/
structure sizesP (so : List ByteArray) (l : List Int) : Prop where
  len : l.length = so.length
  few : so.length ≤ 1000000
  nd : (sBool :: so).Nodup
  sz : ∀ x ∈ so, x.size ≤ maxLen
noncomputable def sizesQ (cs : List C) : Option V := open Classical in if h : ∃ p : List ByteArray × List C × List Int, cs = [.agg [.sl (p.1.map cS), .sl p.2.1], .sl (p.2.2.map cI)] ∧ sizesP p.1 p.2.2 then some (.c (sizesC h.choose.1 h.choose.2.2)) else none
theorem cS_inj : ∀ {l l' : List ByteArray}, l.map cS = l'.map cS → l = l'
  | [], [], _ => rfl
  | [], _ :: _, h => by simp at h
  | _ :: _, [], h => by simp at h
  | a :: l, b :: l', h => by
    simp only [List.map_cons, List.cons.injEq, cS, C.v.injEq, Value.string.injEq] at h
    rw [h.1, cS_inj (l := l) (l' := l') h.2]
theorem cI_inj : ∀ {l l' : List Int}, l.map cI = l'.map cI → l = l'
  | [], [], _ => rfl
  | [], _ :: _, h => by simp at h
  | _ :: _, [], h => by simp at h
  | a :: l, b :: l', h => by
    simp only [List.map_cons, List.cons.injEq, cI, C.v.injEq, Value.int.injEq, true_and] at h
    rw [h.1, cI_inj (l := l) (l' := l') h.2]
theorem sizesQ_some {s : Sg} {l : List Int} (h : sizesP s.sorts l) : sizesQ [encS s, .sl (l.map cI)] = some (.c (sizesC s.sorts l)) := by
  have hx : ∃ p : List ByteArray × List C × List Int, [encS s, .sl (l.map cI)] = [.agg [.sl (p.1.map cS), .sl p.2.1], .sl (p.2.2.map cI)] ∧ sizesP p.1 p.2.2 := ⟨(s.sorts, s.funs.map encF, l), rfl, h⟩
  unfold sizesQ
  rw [dif_pos hx]
  have hc := hx.choose_spec.1
  generalize hx.choose = p at hc
  simp only [encS, List.cons.injEq, C.agg.injEq, C.sl.injEq, and_true] at hc
  rw [← cS_inj hc.1.1, ← cI_inj hc.2]
theorem sizesQ_inv {cs : List C} {r : V} (h : sizesQ cs = some r) : ∃ so fs l, cs = [.agg [.sl (so.map cS), .sl fs], .sl (l.map cI)] ∧ sizesP so l ∧ r = .c (sizesC so l) := by
  unfold sizesQ at h
  split at h
  · rename_i hx
    cases h
    exact ⟨_, _, _, hx.choose_spec.1, hx.choose_spec.2, rfl⟩
  · cases h
theorem RA_ents {F : Fz} : ∀ l : List Int, RA F (l.map cI) (l.map (Value.int .i64))
  | [] => by simp [RA]
  | x :: l => by
    simp only [List.map_cons, RA]
    exact ⟨_, _, rfl, by simp [cI, RC, Value.cells, Value.oneCell'], rfl, RA_ents l⟩
theorem sizesOK {A : Ann} : ExtOK Tryz.prog A 42 sizesQ := by
  refine ext_of fun cs r hr => ?_
  obtain ⟨so, fs, l, rfl, hp, rfl⟩ := sizesQ_inv hr
  refine ⟨_, rfl, fun w0 w F vals hl hb hF ha => ?_⟩
  simp only [RA] at ha
  obtain ⟨u, r, hv, h1, h2, u2, r2, rfl, h3, h4, rfl⟩ := ha
  simp only [RC, RL] at h1 h3
  obtain ⟨a0, s0, e0, ⟨A0, n0, c0, k0, m0, l0, q0⟩, _, a1, s1, e1, ⟨A1, n1, c1, k1, m1, l1, q1⟩, _, e2⟩ := h1
  obtain ⟨A2, n2, c2, k2, m2, l2, q2⟩ := h3
  simp only [List.cons.injEq, and_true] at k0 k1
  subst k0 k1
  simp only [List.length_map] at m0 m2
  subst m0 m2
  have ev : vals = #[.agg #[.slice A0 so.length c0, .slice A1 n1 c1], .slice A2 l.length c2] := by
    obtain ⟨cs, rfl⟩ := aggV_true (u := u) (by simpa [C.isAgg] using h2.symm)
    have hu2 : u2.cells.toList = [u2] := by cases u2 <;> simp [aggV, C.isAgg, Value.cells] at h4 ⊢
    rw [hu2] at k2
    simp only [List.cons.injEq, and_true] at k2
    simp only [Value.cells] at e0
    have ecs : cs = #[.slice A0 so.length c0, .slice A1 n1 c1] := by
      have := congrArg List.toArray e0
      simpa [e1, e2] using this
    have := congrArg List.toArray hv
    simpa [ecs, k2] using this
  subst ev
  have hS : SC w A0 so := fun hne => by
    obtain ⟨b, o, s, e, k⟩ := q0 (by simpa using hne)
    exact ⟨b, o, s, e, RE.mono hF.le k⟩
  have hI : IC w A2 l := fun hne => by
    obtain ⟨b, o, s, e, k⟩ := q2 (by simpa using hne)
    exact ⟨b, o, s, e, RE.mono hF.le k⟩
  refine (sizes_any so l A0 A1 A2 n1 c0 c1 c2 w hS hI hp.len hp.few hp.nd hp.sz).mono ?_
  rintro e w' ⟨rfl, hm, hb'⟩
  refine ⟨_, rfl, hb', ?_, rfl⟩
  simp only [sizesC, RC]
  refine ⟨w.heap.size + 1, (entsL so l so.length).toArray, rfl, ?_, ?_, ?_⟩
  · simp only [newF, show ¬ (w.heap.size + 1 < w.heap.size) by omega, if_false, memF, hm]
  · simpa using entsL_keys so l hp.len
  · have := entsL_vals so l hp.len
    simp only at this ⊢
    rw [this]
    exact RA_ents _
end
end Go.Eng
