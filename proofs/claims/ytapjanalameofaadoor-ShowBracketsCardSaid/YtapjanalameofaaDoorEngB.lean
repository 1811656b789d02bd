-- own work: an evaluator of the program's code, and what it answers
import Derived.Test.YtapjanalameofaaDoorEngA
/- Operations that lay memory, read boxes, write them. -/
set_option linter.unusedVariables false
set_option linter.unusedSimpArgs false
namespace Go.Eng
open Go.RowKit
variable {P : Program} {A : Ann} {w0 : World} {pend : Nat → Nat → Option Box} {g : G} {m : Mem} {w : World} {gh : Gh} {D : Nat} {tm : List V} {a : Act} {o : Oper}
theorem res_of_yields (h : Ctx A w0 pend gh D g m tm a.tmps w) {v : V} (hy : Yields P g w a o v) (hu : v.upTo (D + 1) = true) : Res P A w0 pend gh D tm m a o v w := by
  obtain ⟨u, h1, h2⟩ := hy
  exact ⟨u, g, w, .inl h1, h, h2 _, hu⟩
theorem rd_up (h : TR g D tm a.tmps) {x : Operand} {v : V} (hx : rdOf A tm x = some v) : v.upTo (D + 1) = true := by
  obtain ⟨y, hy, rfl⟩ := Option.map_eq_some_iff.1 hx
  refine upTo_strip ?_
  cases x with
  | tmp t =>
    simp only [raw] at hy
    have : rawT tm t = y := by cases hr : rawT tm t <;> rw [hr] at hy <;> simp at hy <;> exact hy
    rw [← this]; exact rawT_upTo h.up
  | const c =>
    simp only [raw] at hy
    unfold constA at hy
    split at hy
    · obtain ⟨l, hl, rfl⟩ := Option.map_eq_some_iff.1 hy
      refine mkAgg_up (upToL_mem.2 fun x hx => ?_)
      simp only [List.mem_map] at hx
      obtain ⟨z, hz, rfl⟩ := hx
      obtain ⟨i, hi⟩ := List.getElem?_of_mem hz
      obtain ⟨_, _, e⟩ := (mapM_get hl).2 i z hi
      unfold constV at e
      split at e <;> cases e <;> rfl
    · unfold constV at hy
      split at hy <;> cases hy <;> rfl
  | global v' => simp only [raw] at hy; obtain ⟨l, hl, rfl⟩ := Option.map_eq_some_iff.1 hy; rfl
  | func f => simp only [raw] at hy; cases hy; rfl
theorem setR_eq : ∀ (us l : List Value) (n : Nat), n + us.length ≤ l.length → setR l n us = l.take n ++ us ++ l.drop (n + us.length)
  | [], l, n, h => by simp [setR]
  | u :: us, l, n, h => by
    simp only [setR]
    simp only [List.length_cons] at h
    rw [setR_eq us (l.set n u) (n + 1) (by simp; omega)]
    have hn : n < l.length := by omega
    rw [List.take_set, List.take_succ_eq_append_getElem hn, List.drop_set_of_lt (by omega)]
    have h1 : (l.take n ++ [l[n]]).set n u = l.take n ++ [u] := by
      rw [List.set_append_right _ _ (by simp; omega)]
      have : n - (l.take n).length = 0 := by simp; omega
      rw [this]; rfl
    rw [h1]
    simp [Nat.add_assoc, Nat.add_comm 1]
/-- the cells of a slice that is written out -/
theorem fill_seq (s : Nat) : ∀ (us : List Value) (k : Nat) (cs : Array Value), (∀ u ∈ us, u.cells.size = s) → cs.size = (k + us.length) * s →
    ∃ cs', Instr.fill (fun i => some (i * s, s)) cs ((List.range' k us.length).zip us) = some cs' ∧ cs'.toList = cs.toList.take (k * s) ++ (us.map fun u => u.cells.toList).flatten
  | [], k, cs, _, h => ⟨cs, rfl, by
      have : cs.toList.length = k * s := by simpa using h
      rw [List.take_of_length_le (by omega)]; simp⟩
  | u :: us, k, cs, hu, h => by
    have h0 := hu u (List.mem_cons_self ..)
    have hmul : (k + (us.length + 1)) * s = k * s + s + us.length * s := by rw [Nat.add_mul, Nat.add_mul]; omega
    simp only [List.length_cons] at h
    rw [hmul] at h
    obtain ⟨cs1, e1, e2⟩ : ∃ cs1 : Array Value, cs1 = u.cells.zipIdx.foldl (fun cs (c, j) => cs.setIfInBounds (k * s + j) c) cs ∧ cs1.toList = setR cs.toList (k * s) u.cells.toList :=
      ⟨_, rfl, by rw [← Array.foldl_toList, Array.toList_zipIdx]; exact set_fold u.cells.toList 0 (k * s) cs⟩
    rw [setR_eq _ _ _ (by simp; omega)] at e2
    have hlen : cs1.size = (k + 1 + us.length) * s := by
      have := congrArg List.length e2
      simp [h0, h] at this
      rw [this, show (k + 1 + us.length) * s = k * s + s + us.length * s by rw [Nat.add_mul, Nat.add_mul]; omega]
      omega
    obtain ⟨cs', f1, f2⟩ := fill_seq s us (k + 1) cs1 (fun x hx => hu x (List.mem_cons_of_mem _ hx)) hlen
    refine ⟨cs', ?_, ?_⟩
    · simp only [List.length_cons, List.range'_succ, List.zip_cons_cons, Instr.fill]
      rw [if_neg]
      · rw [← e1]; exact f1
      · simp only [ne_eq, Bool.or_eq_true, decide_eq_true_eq]
        intro hbad
        rcases hbad with hbad | hbad
        · exact hbad h0
        · rw [h0] at hbad; omega
    · rw [f2, e2]
      have hk : ((k + 1) * s) = k * s + s := by rw [Nat.succ_mul]
      rw [hk]
      have hl1 : (cs.toList.take (k * s)).length = k * s := by simp; omega
      have hl2 : u.cells.toList.length = s := by simpa using h0
      rw [List.take_append_of_le_length (by simp; omega), List.take_of_length_le (by simp; omega)]
      simp [List.append_assoc]
theorem RE_flat {F : Fz} {b s : Nat} : ∀ {l : List C} {vss : List (List Value)} {o : Nat}, l.length = vss.length → (∀ (i : Nat) x vs, l[i]? = some x → vss[i]? = some vs → vs.length = s ∧ RC F x vs) → At F b o vss.flatten → RE F b o s l
  | [], vss, o, _, _, _ => by simp only [RE]
  | x :: l, vss, o, hl, h, hA => by
    match vss, hl with
    | vs :: vss, hl =>
      obtain ⟨h1, h2⟩ := h 0 x vs rfl rfl
      simp only [RE]
      refine ⟨⟨vs, h1, fun j u hj => hA j u ?_, h2⟩, RE_flat (vss := vss) (by simpa using hl) (fun i y us hy hu => h (i + 1) y us (by simpa using hy) (by simpa using hu)) fun j u hj => ?_⟩
      · rw [List.flatten_cons, List.getElem?_append_left (List.getElem?_eq_some_iff.1 hj).1]; exact hj
      · have := hA (s + j) u (by rw [List.flatten_cons, List.getElem?_append_right (by omega)]; rw [h1]; simpa using hj)
        rwa [← Nat.add_assoc] at this
theorem zip_range' {α β : Type} : ∀ (l : List (Nat × α)) (us : List β) (k : Nat), l.length = us.length → l.map (·.1) = List.range' k l.length → (List.range' k us.length).zip us = (l.map (·.1)).zip us := by
  intro l us k h1 h2
  rw [h2, h1]
theorem res_buildSlice (h : Ctx A w0 pend gh D g m tm a.tmps w) {t : TypeId} {n : Nat} {parts : Array (Nat × Operand)} {v : V} (ho : o.op = .buildSlice t n parts) (hv : pureOp P (rdOf A tm) o = some v) : Res P A w0 pend gh D tm m a o v w := by
  have hup := pureOp_up (fun x v hx => rd_up h.tr hx) hv
  have hr := reads_ok h.inv.glob h.tr
  simp only [pureOp, ho] at hv
  split at hv
  · rename_i i ps hi hps
    split at hv
    · rename_i e hk
      split at hv
      · rename_i ei he
        split at hv
        · rename_i hc
          cases hv
          obtain ⟨c1, c2, c3, c4⟩ := hc
          obtain ⟨i1, u1, z1, a1, a2, a3, _, _, _, _, a8, _⟩ := tyOf_spec hi
          rw [hk] at a8
          have := kind_slice a8; subst this
          obtain ⟨i2, u2, z2, b1, b2, b3, _, b5, b6, b7, _, b9⟩ := tyOf_spec he
          obtain ⟨q1, q2, q3⟩ := rdParts_ok hr hps
          obtain ⟨q4, q5⟩ := q2.get
          obtain ⟨us, hus⟩ : ∃ us, us = parts.toList.map fun x => a.eval x.2 := ⟨_, rfl⟩
          rw [← hus] at q2 q4 q5
          simp only [List.length_map] at q4
          have hrel : ∀ (j : Nat) x u, (ps.map fun q => q.2.toC)[j]? = some x → us[j]? = some u → u.cells.toList.length = ei.size ∧ RC g.F x u.cells.toList := fun j x u hx hu => by
            rw [List.getElem?_map] at hx
            obtain ⟨p, hp, rfl⟩ := Option.map_eq_some_iff.1 hx
            have h5 := q5 j p.2 u (by rw [List.getElem?_map, hp]; rfl) hu
            have h6 := List.all_eq_true.1 c4 p (List.mem_of_getElem? hp)
            simp only [Bool.and_eq_true, decide_eq_true_eq] at h6
            match p, h6, h5 with
            | (pi, .c x), h6, h5 =>
              simp only [RV] at h5
              exact ⟨h5.1.size h6.1.2, h5.1⟩
          have hsz : ∀ u ∈ us, u.cells.size = ei.size := fun u hu => by
            obtain ⟨j, hj⟩ := List.getElem?_of_mem hu
            have hlt : j < (ps.map fun q => q.2.toC).length := by simp; rw [q4]; exact (List.getElem?_eq_some_iff.1 hj).1
            have := (hrel j _ u (List.getElem?_eq_getElem hlt) hj).1
            simpa using this
          have hzl : z2.cells.size = ei.size := by
            have := (mapM_get b7).1
            simp at this; rw [← this, b9]
          obtain ⟨z0, hz0⟩ : ∃ z0 : Array Value, z0 = (if n * ei.size = 0 then #[] else z2.cells) := ⟨_, rfl⟩
          obtain ⟨cs', f1, f2⟩ := fill_seq ei.size us 0 ((Array.range (n * ei.size)).map (z0[· % z0.size]!)) hsz (by simp [← q4, c1])
          have hzip : (List.range' 0 us.length).zip us = parts.toList.map fun x => (x.1, a.eval x.2) := by
            have h1 : List.range' 0 us.length = parts.toList.map (·.1) := by
              rw [← q1, c3, ← q4, c1, List.range_eq_range']
            rw [h1, hus]
            clear f1 h1 hus hrel hsz q2 q4 q5
            induction parts.toList with
            | nil => rfl
            | cons x l ih => simp [ih]
          rw [hzip] at f1
          simp only [Nat.zero_mul, List.take_zero, List.nil_append] at f2
          obtain ⟨hinv, hext⟩ := h.inv.allocF cs' e
          refine ⟨.slice (some ⟨w.heap.size, 0, none⟩) n n, _, w.alloc (.cells cs' e), .inl ?_, h.ext hinv (hext fun _ => False) id (fun _ _ => id), ?_, rfl⟩
          · have h24 : ¬ (16777216 < n * ei.size) := by omega
            have hzz : (if n * ei.size = 0 then pure #[] else do pure (← zeroValue e).cells : Sem (Array Value)).run P w = .ok z0 w := by
              rw [hz0]
              split
              · rfl
              · simp [zeroValue, typeInfo, b1, b6]
            rw [hz0] at f1
            by_cases h0 : n * ei.size = 0
            · simp only [h0, if_true] at f1
              have h24' : ¬ (16777216 < 0) := by omega
              simp [h0] at f1
              simp [execOp, ho, Instr.buildSlice, run_underlying a2, run_sizeOf' b1, b3, h24', h0, newRow, newObj, f1]
              rfl
            · simp only [h0, if_false] at f1
              simp [execOp, ho, Instr.buildSlice, run_underlying a2, run_sizeOf' b1, b3, h24, h0, newRow, newObj, zeroValue, typeInfo, b1, b6, f1]
              rfl
          · simp only [RV]
            refine ⟨?_, fun a' n' c' hu' hn' => by cases hu'; omega⟩
            simp only [RC]
            refine ⟨_, _, _, rfl, by simp [c1], Nat.le_refl _, fun _ => ⟨w.heap.size, 0, ei.size, rfl, ?_⟩⟩
            refine RE_flat (vss := us.map fun u => u.cells.toList) (by simp [q4]) (fun j x vs hx hvs => ?_) fun j u hj => ?_
            · rw [List.getElem?_map] at hvs
              obtain ⟨u, hu, rfl⟩ := Option.map_eq_some_iff.1 hvs
              obtain ⟨k1, k2⟩ := hrel j x u hx hu
              exact ⟨k1, k2.mono (hext fun _ => False).F⟩
            · show (if w.heap.size = w.heap.size then _ else _) = _
              rw [if_pos rfl, f2, Nat.zero_add]; exact hj
        · cases hv
      · cases hv
    · cases hv
  · cases hv
end Go.Eng
/- Boxes: laid, read, written. -/
set_option linter.unusedVariables false
set_option linter.unusedSimpArgs false
namespace Go.Eng
open Go.RowKit
variable {P : Program} {A : Ann} {w0 : World} {pend : Nat → Nat → Option Box} {g : G} {m : Mem} {w : World} {gh : Gh} {D : Nat} {tm : List V} {a : Act} {o : Oper}
mutual
theorem upTo_le {n n' : Nat} (hn : n ≤ n') : ∀ {x : V}, x.upTo n = true → x.upTo n' = true
  | .c x, h => rfl
  | .tip s l, h => rfl
  | .p d t off, h => by simp only [V.upTo, decide_eq_true_eq] at h ⊢; omega
  | .agg l, h => by simp only [V.upTo] at h ⊢; exact upToL_le hn h
  | .tup l, h => by simp only [V.upTo] at h ⊢; exact upToL_le hn h
  | .fn f l, h => by simp only [V.upTo] at h ⊢; exact upToL_le hn h
  | .undef, h => rfl
  | .nagg l, h => by simp only [V.upTo] at h ⊢; exact upToL_le hn h
theorem upToL_le {n n' : Nat} (hn : n ≤ n') : ∀ {l : List V}, upToL n l = true → upToL n' l = true
  | [], h => rfl
  | x :: l, h => by simp only [upToL, Bool.and_eq_true] at h ⊢; exact ⟨upTo_le hn h.1, upToL_le hn h.2⟩
end
theorem look_upd (fr : Fr) (r : Mem) (d : Nat) (l : Box) (d' t' : Nat) : look (upd fr d l :: r) d' t' = if d' = r.length ∧ t' = d then some l else look (fr :: r) d' t' := by
  have := look_put r.length d l d' t' (fr :: r) (by simp)
  simpa [put] using this
theorem zero_box {t : TypeId} {i : TyI} (h : tyOf P t = some i) : ∃ ti z, P.info? t = some ti ∧ ti.zero = some z ∧ i.zero.length = z.cells.size ∧ (∀ x ∈ i.zero, x.isAgg = false ∧ x.isTup = false) ∧
    (∀ (j : Nat) x u, i.zero[j]? = some x → z.cells[j]? = some u → ∀ p, RV g p x u) := by
  obtain ⟨ti, _, z, h1, _, _, _, _, h6, h7, _⟩ := tyOf_spec h
  obtain ⟨k1, k2⟩ := mapM_get h7
  refine ⟨ti, z, h1, h6, by simpa using k1, fun x hx => ?_, fun j x u hx hu => (consts_ok h7).2.2 j x u hx (by simpa using hu)⟩
  obtain ⟨j, hj⟩ := List.getElem?_of_mem hx
  obtain ⟨q, _, e⟩ := k2 j x hj
  exact (constV_ok (g := g) e .none).2
theorem run_alloc {t : TypeId} {ti : TypeInfo} {z : Value} (h1 : P.info? t = some ti) (h2 : ti.zero = some z) (ho : o.op = .alloc t) : (execOp a.eval o).run P w = .ok (.value (.pointer (some ⟨w.heap.size, 0, none⟩))) (w.alloc (.cells z.cells t)) := by
  simp [execOp, ho, Instr.alloc, zeroValue, typeInfo, h1, h2, newVar, newRow, newObj]
  rfl
theorem res_alloc {fr : Fr} {r : Mem} (h : Ctx A w0 pend gh D g (fr :: r) tm a.tmps w) {t : TypeId} {i : TyI} {d : Nat} (ho : o.op = .alloc t) (hl : lk fr d = none) (hi : tyOf P t = some i) :
    Res P A w0 pend gh D tm (upd fr d i.zero :: r) a o (.p r.length d 0) w := by
  have hD : r.length = D := by have := h.len; simpa using this
  obtain ⟨ti, z, k1, k2, k3, k4, k5⟩ := zero_box (g := g) hi
  have hlook : look (fr :: r) r.length d = none := by rw [look_head]; exact hl
  have hn : g.φ r.length d = none := by
    cases hb : g.φ r.length d with
    | none => rfl
    | some b => obtain ⟨_, _, _, l, cs, e, q, _⟩ := h.inv.φ _ _ _ hb; rw [hlook] at q; cases q
  obtain ⟨hinv, hext⟩ := h.inv.allocB (m' := upd fr d i.zero :: r) (pend' := pend) (cs := z.cells) t hn (look_upd fr r d i.zero) k3 k4 k5 (zero_up hi _).1
    (fun d' t' b hb => ⟨hb, fun q => by have := (h.inv.pend _ _ _ hb).2; rw [q.1, q.2, hlook] at this; cases this⟩)
  refine ⟨_, _, _, .inl (run_alloc k1 k2 ho), ⟨hinv, h.gh.ext (hext fun _ => False) id (fun _ _ _ => id), h.tr.ext (hext fun _ => False) id (fun _ => id), by simpa using h.len⟩, ?_, ?_⟩
  · simp only [RV]
    exact ⟨w.heap.size, by show (if _ ∧ _ then _ else _) = _; rw [if_pos ⟨rfl, rfl⟩], rfl⟩
  · simp [V.upTo, hD]
theorem res_alloc_pend {fr : Fr} {r : Mem} {pend' : Nat → Nat → Option Box} (h : Ctx A w0 pend gh D g (fr :: r) tm a.tmps w) {t : TypeId} {i : TyI} {d : Nat} (ho : o.op = .alloc t) (hi : tyOf P t = some i)
    (hp : pend r.length d = some i.zero) (hp' : ∀ d' t' b, pend' d' t' = some b → pend d' t' = some b ∧ ¬ (d' = r.length ∧ t' = d)) :
    Res P A w0 pend' gh D tm (fr :: r) a o (.p r.length d 0) w := by
  have hD : r.length = D := by have := h.len; simpa using this
  obtain ⟨ti, z, k1, k2, k3, k4, k5⟩ := zero_box (g := g) hi
  obtain ⟨hn, hlook⟩ := h.inv.pend _ _ _ hp
  obtain ⟨hinv, hext⟩ := h.inv.allocB (m' := fr :: r) (pend' := pend') (cs := z.cells) t hn (fun d' t' => by
    by_cases q : d' = r.length ∧ t' = d
    · rw [if_pos q, q.1, q.2]; exact hlook
    · rw [if_neg q]) k3 k4 k5 (zero_up hi _).1 hp'
  refine ⟨_, _, _, .inl (run_alloc k1 k2 ho), ⟨hinv, h.gh.ext (hext fun _ => False) id (fun _ _ _ => id), h.tr.ext (hext fun _ => False) id (fun _ => id), by simpa using h.len⟩, ?_, ?_⟩
  · simp only [RV]
    exact ⟨w.heap.size, by show (if _ ∧ _ then _ else _) = _; rw [if_pos ⟨rfl, rfl⟩], rfl⟩
  · simp [V.upTo, hD]
theorem RVL.strips {l : List V} {cs : List Value} (h : RVL g l cs) : RVL g (l.map V.strip) cs := by
  obtain ⟨h1, h2⟩ := h.get
  refine RVL.mk (by simp [h1]) fun i x u hx hu => ?_
  rw [List.getElem?_map] at hx
  obtain ⟨y, hy, rfl⟩ := Option.map_eq_some_iff.1 hx
  exact (h2 i y u hy hu).strip
theorem Flat.strips {l : List V} (h : Flat l) : Flat (l.map V.strip) := fun x hx => by
  simp only [List.mem_map] at hx
  obtain ⟨y, hy, rfl⟩ := hx
  have := h y hy
  cases y <;> simp_all [V.strip, V.isAgg, V.isTup, C.isAgg]
theorem upToL_strips {l : List V} {n : Nat} (h : upToL n l = true) : upToL n (l.map V.strip) = true := by
  rw [upToL_mem] at h ⊢
  intro x hx
  simp only [List.mem_map] at hx
  obtain ⟨y, hy, rfl⟩ := hx
  exact upTo_strip (h y hy)
/-- a list of stripped values is told alike at every place -/
theorem RVL.anyAt {l : List V} {cs : List Value} (h : RVL g (l.map V.strip) cs) {i : Nat} {x : V} {u : Value} (hx : (l.map V.strip)[i]? = some x) (hu : cs[i]? = some u) (p : Pl) : RV g p x u := by
  have := h.get.2 i x u hx hu
  rw [List.getElem?_map] at hx
  obtain ⟨y, hy, rfl⟩ := Option.map_eq_some_iff.1 hx
  exact this.any (strip_strip y) p
theorem res_box {fr : Fr} {r : Mem} (h : Ctx A w0 pend gh D g (fr :: r) tm a.tmps w) {t : TypeId} {x : Operand} {v : V} {i : TyI} {d : Nat} (ho : o.op = .box t x) (hl : lk fr d = none) (hx : rdOf A tm x = some v)
    (hs : v.cells.length = i.size) (hup : upToL (r.length + 1) v.cells = true) (ht : v.isTup = false) :
    Res P A w0 pend gh D tm (upd fr d (v.cells.map V.strip) :: r) a o (.p r.length d 0) w := by
  have hD : r.length = D := by have := h.len; simpa using this
  obtain ⟨h1, h2⟩ := reads_ok h.inv.glob h.tr _ _ hx
  obtain ⟨c1, c2⟩ := h1.cells ht
  have hlook : look (fr :: r) r.length d = none := by rw [look_head]; exact hl
  have hn : g.φ r.length d = none := by
    cases hb : g.φ r.length d with
    | none => rfl
    | some b => obtain ⟨_, _, _, l, cs, e, q, _⟩ := h.inv.φ _ _ _ hb; rw [hlook] at q; cases q
  obtain ⟨hinv, hext⟩ := h.inv.allocB (m' := upd fr d (v.cells.map V.strip) :: r) (pend' := pend) (cs := (a.eval x).cells) t hn (look_upd fr r d _) (by have := c1.get.1; simpa using this) c2.strips
    (fun j y u hy hu p => c1.strips.anyAt hy (by simpa using hu) p) (upToL_strips hup)
    (fun d' t' b hb => ⟨hb, fun q => by have := (h.inv.pend _ _ _ hb).2; rw [q.1, q.2, hlook] at this; cases this⟩)
  refine ⟨.pointer (some ⟨w.heap.size, 0, none⟩), _, w.alloc (.cells (a.eval x).cells t), .inl ?_, ⟨hinv, h.gh.ext (hext fun _ => False) id (fun _ _ _ => id), h.tr.ext (hext fun _ => False) id (fun _ => id), by simpa using h.len⟩, ?_, ?_⟩
  · simp [execOp, ho, Instr.box, newVar, newRow, newObj]; rfl
  · simp only [RV]
    exact ⟨w.heap.size, by show (if _ ∧ _ then _ else _) = _; rw [if_pos ⟨rfl, rfl⟩], rfl⟩
  · simp [V.upTo, hD]
theorem res_boxN {fr : Fr} {r : Mem} (h : Ctx A w0 pend gh D g (fr :: r) tm a.tmps w) {t : TypeId} {x : Operand} {l : List V} {i : TyI} {d : Nat} (ho : o.op = .box t x) (hl : lk fr d = none) (hx : raw A tm x = some (.nagg l))
    (hs : l.length = i.size) :
    Res P A w0 pend gh D tm (upd fr d l :: r) a o (.p r.length d 0) w := by
  have hD : r.length = D := by have := h.len; simpa using this
  have h1 := raw_ok h.inv.glob h.tr hx
  simp only [RV] at h1
  obtain ⟨cs, e, c1, c2⟩ := h1
  have hup : upToL (r.length + 1) l = true := by
    cases x with
    | tmp s =>
      have hr : rawT tm s = .nagg l := by
        simp only [raw] at hx
        generalize rawT tm s = z at hx
        cases z <;> simp_all
      have := (upToL_mem.1 h.tr.up) _ (List.mem_of_getElem? (rawT_get hr (by simp)))
      simp only [V.upTo] at this
      rw [hD]; exact this
    | const v =>
      simp only [raw] at hx
      refine upToL_mem.2 fun y hy => ?_
      have := (c2 y hy).2.2
      cases y <;> simp_all [V.full, V.upTo]
    | func f => simp [raw] at hx
    | global v =>
      simp only [raw] at hx
      cases hg : A.glob v <;> rw [hg] at hx <;> simp at hx
  have hlook : look (fr :: r) r.length d = none := by rw [look_head]; exact hl
  have hn : g.φ r.length d = none := by
    cases hb : g.φ r.length d with
    | none => rfl
    | some b => obtain ⟨_, _, _, l, cs, e, q, _⟩ := h.inv.φ _ _ _ hb; rw [hlook] at q; cases q
  have hce : (a.eval x).cells = cs := by rw [e]; rfl
  obtain ⟨hinv, hext⟩ := h.inv.allocB (m' := upd fr d l :: r) (pend' := pend) (cs := cs) t hn (look_upd fr r d _) (by have := c1.get.1; simpa using this) (fun y hy => ⟨(c2 y hy).1, (c2 y hy).2.1⟩)
    (fun j y u hy hu p => (c1.get.2 j y u hy (by simpa using hu)).fullAt (c2 y (List.mem_of_getElem? hy)).2.2) hup
    (fun d' t' b hb => ⟨hb, fun q => by have := (h.inv.pend _ _ _ hb).2; rw [q.1, q.2, hlook] at this; cases this⟩)
  refine ⟨.pointer (some ⟨w.heap.size, 0, none⟩), _, w.alloc (.cells cs t), .inl ?_, ⟨hinv, h.gh.ext (hext fun _ => False) id (fun _ _ _ => id), h.tr.ext (hext fun _ => False) id (fun _ => id), by simpa using h.len⟩, ?_, ?_⟩
  · rw [← hce]; simp [execOp, ho, Instr.box, newVar, newRow, newObj]; rfl
  · simp only [RV]
    exact ⟨w.heap.size, by show (if _ ∧ _ then _ else _) = _; rw [if_pos ⟨rfl, rfl⟩], rfl⟩
  · simp [V.upTo, hD]
/-- a box that is never written again -/
theorem res_boxF (h : Ctx A w0 pend gh D g m tm a.tmps w) {t : TypeId} {x : Operand} {y : C} (ho : o.op = .box t x) (hx : rdOf A tm x = some (.c y)) : Res P A w0 pend gh D tm m a o (.c (.fp y.cells)) w := by
  obtain ⟨h1, h2⟩ := reads_ok h.inv.glob h.tr _ _ hx
  simp only [RV] at h1
  obtain ⟨hinv, hext⟩ := h.inv.allocF (a.eval x).cells t
  have hcells : RL g.F y.cells (a.eval x).cells.toList := by
    cases y with
    | agg l => have := h1.1; simp only [RC] at this; exact this
    | _ =>
      obtain ⟨k1, k2⟩ := h1
      have hc : ∃ u, (a.eval x).cells.toList = [u] := by
        first
        | (simp only [RC] at k1; obtain ⟨k1, _⟩ := k1; exact ⟨_, k1⟩)
        | (simp only [RC] at k1; obtain ⟨_, _, _, k1, _⟩ := k1; exact ⟨_, k1⟩)
        | (simp only [RC] at k1; obtain ⟨_, k1, _⟩ := k1; exact ⟨_, k1⟩)
        | (simp only [RC] at k1; obtain ⟨_, _, k1, _⟩ := k1; exact ⟨_, k1⟩)
      obtain ⟨u, hu⟩ := hc
      rw [hu] at k1 ⊢
      simp only [C.cells, RL]
      exact ⟨u, [], rfl, k1, rfl, rfl⟩
  refine ⟨.pointer (some ⟨w.heap.size, 0, none⟩), _, w.alloc (.cells (a.eval x).cells t), .inl ?_, h.ext hinv (hext fun _ => False) id (fun _ _ => id), ?_, rfl⟩
  · simp [execOp, ho, Instr.box, newVar, newRow, newObj]; rfl
  · simp only [RV, RC]
    refine ⟨⟨w.heap.size, 0, (a.eval x).cells.toList, rfl, fun j u hj => ?_, RL.mono (hext fun _ => False).F hcells⟩, rfl⟩
    show (if w.heap.size = w.heap.size then _ else _) = _
    rw [if_pos rfl, Nat.zero_add]; exact hj
/-- what is loaded of a row of cells -/
theorem run_loadVarB {t : TypeId} {i : TyI} (ht : tyOf P t = some i) {b off : Nat} {cs : Array Value} {e : TypeId} {fz : Nat × Nat} (hb : w.heap[b]? = some (.cells cs e fz)) (hl : off + i.size ≤ cs.size) {v : Value}
    (hv : if i.agg then v = .agg ((cs.toList.drop off).take i.size).toArray else cs[off]? = some v) : (loadVar t ⟨b, off, none⟩).run P w = .ok v w := by
  refine run_loadVarF (g := ⟨⟨fun b' j => if b' = b then cs[j]? else none, fun _ => none⟩, fun _ _ => none, fun _ => none⟩) (fun b' j u (hu : (if b' = b then cs[j]? else none) = some u) => ?_) ht (vs := cs.toList.drop off) (fun j u hj => ?_) (by simp; omega) ?_
  · by_cases hq : b' = b
    · subst hq
      rw [if_pos rfl] at hu
      simp [World.cell?, hb, hu]
    · rw [if_neg hq] at hu; cases hu
  · rw [List.getElem?_drop] at hj
    show (if b = b then _ else _) = _
    rw [if_pos rfl]; simpa using hj
  · cases ha : i.agg with
    | true => simp only [ha, if_true] at hv ⊢; exact hv
    | false => simp only [ha, Bool.false_eq_true, if_false] at hv ⊢; rw [List.getElem?_drop]; simpa using hv
theorem res_load (h : Ctx A w0 pend gh D g m tm a.tmps w) {t : TypeId} {x : Operand} {i : TyI} {d b off : Nat} {cs : Box} {v : V} (ho : o.op = .load t x) (hx : rdOf A tm x = some (.p d b off)) (hlook : look m d b = some cs) (hi : tyOf P t = some i)
    (hs : off + i.size ≤ cs.length) (hv : ofCells i.agg (((cs.drop off).take i.size).map V.strip) = some v) : Res P A w0 pend gh D tm m a o v w := by
  obtain ⟨h1, _⟩ := reads_ok h.inv.glob h.tr _ _ hx
  simp only [RV] at h1
  obtain ⟨blk, e1, e2⟩ := h1
  obtain ⟨_, _, _, l, vals, e, k1, k2, k3, k5, k4⟩ := h.inv.φ _ _ _ e1
  rw [hlook] at k1; cases k1
  have hrel : RVL g (cs.map V.strip) vals.toList := RVL.mk (by simp [k3]) fun j y u hy hu => by
    rw [List.getElem?_map] at hy
    obtain ⟨z, hz, rfl⟩ := Option.map_eq_some_iff.1 hy
    exact (k4 j z u hz (by simpa using hu)).strip
  have hfl : Flat (cs.map V.strip) := Flat.strips k5
  rw [List.map_take, List.map_drop] at hv
  obtain ⟨u, hu1, hu2⟩ := ofCells_ok (p := .none) ((hrel.drop off).take i.size) ((hfl.drop off).take i.size) hv
  have hrun := run_loadVarB (P := P) (w := w) hi k2 (off := off) (by omega) (v := u) (by
    cases ha : i.agg with
    | true => simp only [ha, if_true] at hu2 ⊢; exact hu2
    | false =>
      simp only [ha, Bool.false_eq_true, if_false] at hu2 ⊢
      have := take0 hu2.1
      rw [List.getElem?_drop] at this
      simpa using this)
  refine ⟨u, g, w, .inl ?_, h, hu1.any (ofCells_strip hv) _, ?_⟩
  · simp [execOp, ho, Instr.loadAt, e2, Instr.sureAddr, hrun]
  · have hlt := look_lt hlook
    have hd : upToL (d + 1) cs = true := h.inv.up _ _ _ hlook
    refine ofCells_up ?_ hv
    rw [upToL_mem] at hd ⊢
    intro y hy
    have hy := List.mem_of_mem_drop (List.mem_of_mem_take hy)
    simp only [List.mem_map] at hy
    obtain ⟨z, hz, rfl⟩ := hy
    have := upTo_strip (hd z hz)
    exact upTo_le (by have := h.len; omega) this
end Go.Eng
/- A store into a box; append. -/
set_option linter.unusedVariables false
set_option linter.unusedSimpArgs false
namespace Go.Eng
open Go.RowKit
variable {P : Program} {A : Ann} {w0 : World} {pend : Nat → Nat → Option Box} {g : G} {m : Mem} {w : World} {gh : Gh} {D : Nat} {tm : List V} {a : Act} {o : Oper}
theorem below_setRow (h : Below w0.heap.size w0 w) {b : Nat} (hb : w0.heap.size ≤ b) (cs : Array Value) : Below w0.heap.size w0 (w.setRow b cs) :=
  h.trans ⟨rfl, rfl, rfl, by simp, fun k hk => setRow_other w b k cs (by omega)⟩
theorem cell_of_heap {b i : Nat} {w' : World} (h : w'.heap[b]? = w.heap[b]?) : w'.cell? ⟨b, i, none⟩ = w.cell? ⟨b, i, none⟩ := World.cell?_of_block (w := w) h
theorem Inv.write (h : Inv A w0 pend g m w) {d t b : Nat} {cs arr : Array Value} {e : TypeId} {l : List V} (hb : g.φ d t = some b) (hh : w.heap[b]? = some (.cells cs e (0, 0))) (hl : l.length = arr.size)
    (hfl : ∀ x ∈ l, x.isAgg = false ∧ x.isTup = false) (hrel : ∀ (i : Nat) x u, l[i]? = some x → arr[i]? = some u → RV g (.cell d t i) x u) (hup : upToL (d + 1) l = true) : Inv A w0 pend g (put m d t l) (w.setRow b arr) := by
  obtain ⟨c1, c2, c3, l0, cs0, e0, k1, k2, k3, k5, k4⟩ := h.φ _ _ _ hb
  have hlt := look_lt k1
  refine ⟨h.laid, below_setRow h.below c1 arr, h.glob, fun b' i v hv => ?_, fun b' es hb' => ?_, fun d' t' b' hb' => ?_, h.inj, fun b' q hq => ?_, fun d' t' l' hl' => ?_, fun d' t' l' hl' => ?_⟩
  · have hne : b' ≠ b := fun q => by subst q; rw [c2] at hv; cases hv
    rw [cell_of_heap (setRow_other w b b' arr hne)]; exact h.F _ _ _ hv
  · obtain ⟨ck, hck⟩ := h.M _ _ hb'
    have hne : b' ≠ b := fun q => by subst q; rw [hh] at hck; cases hck
    exact ⟨ck, (setRow_other w b b' arr hne).trans hck⟩
  · obtain ⟨q1, q2, q3, l1, cs1, e1, p1, p2, p3, p5, p4⟩ := h.φ _ _ _ hb'
    by_cases hq : d' = d ∧ t' = t
    · obtain ⟨rfl, rfl⟩ := hq
      rw [hb] at hb'; cases hb'
      exact ⟨q1, q2, q3, l, arr, e, by rw [look_put _ _ _ _ _ _ hlt, if_pos ⟨rfl, rfl⟩], setRow_heap w b cs arr e (0, 0) hh, hl, hfl, hrel⟩
    · have hne : b' ≠ b := fun q => by subst q; exact hq (h.inj _ _ _ _ _ hb' hb)
      exact ⟨q1, q2, q3, l1, cs1, e1, by rw [look_put _ _ _ _ _ _ hlt, if_neg hq]; exact p1, (setRow_other w b b' arr hne).trans p2, p3, p5, p4⟩
  · have hne : b' ≠ b := fun q => by subst q; rw [c3] at hq; cases hq
    obtain ⟨q1, cs1, e1, p1, p2, p3⟩ := h.o _ _ hq
    exact ⟨q1, cs1, e1, (setRow_other w b b' arr hne).trans p1, p2, p3⟩
  · rw [look_put _ _ _ _ _ _ hlt] at hl'
    split at hl'
    · rename_i q; cases hl'; rw [q.1]; exact hup
    · exact h.up _ _ _ hl'
  · obtain ⟨p1, p2⟩ := h.pend _ _ _ hl'
    refine ⟨p1, ?_⟩
    rw [look_put _ _ _ _ _ _ hlt, if_neg (fun q => by rw [q.1, q.2, hb] at p1; cases p1)]
    exact p2
theorem getE_setL : ∀ (xs l : List V) (n i : Nat), n + xs.length ≤ l.length → (setL l n xs)[i]? = if n ≤ i ∧ i < n + xs.length then xs[i - n]? else l[i]?
  | [], l, n, i, h => by simp only [setL]; rw [if_neg (by simp only [List.length_nil]; omega)]
  | x :: xs, l, n, i, h => by
    simp only [List.length_cons] at h
    simp only [setL]
    rw [getE_setL xs _ (n + 1) i (by simp; omega)]
    by_cases hi : n + 1 ≤ i ∧ i < n + 1 + xs.length
    · rw [if_pos hi, if_pos (by simp only [List.length_cons]; omega)]
      have : i - n = (i - (n + 1)) + 1 := by omega
      rw [this, List.getElem?_cons_succ]
    · rw [if_neg hi, List.getElem?_set]
      by_cases hn : n = i
      · subst hn
        rw [if_pos rfl, if_pos (by omega), if_pos (by simp only [List.length_cons]; omega)]
        simp
      · rw [if_neg hn, if_neg (by simp only [List.length_cons]; omega)]
theorem setL_length : ∀ (xs l : List V) (n : Nat), (setL l n xs).length = l.length
  | [], l, n => rfl
  | x :: xs, l, n => by simp only [setL]; rw [setL_length xs]; simp
theorem res_store (h : Ctx A w0 pend gh D g m tm a.tmps w) {t : TypeId} {y x : Operand} {i : TyI} {d b off : Nat} {cs : Box} {v : V} {vs : List V} (ho : o.op = .store t y x) (hy : rdOf A tm y = some (.p d b off)) (hx : raw A tm x = some v) (hi : tyOf P t = some i)
    (hlook : look m d b = some cs) (hvs : vs = v.stored) (hs : vs.length = i.size) (hs2 : off + i.size ≤ cs.length) (hup : upToL (d + 1) vs = true) (ht : v.isTup = false) :
    Res P A w0 pend gh D (stripT tm (opTmps [x])) (put m d b (setL cs off vs)) a o (.tup []) w := by
  obtain ⟨h1, _⟩ := reads_ok h.inv.glob h.tr _ _ hy
  simp only [RV] at h1
  obtain ⟨blk, e1, e2⟩ := h1
  obtain ⟨g', hc, hv, hvu, hext⟩ := take_ok h hx (.cell d b off)
  have e1' : g'.φ d b = some blk := hext.φ _ _ _ e1
  obtain ⟨c1, c2, c3, l0, vals, ee, k1, k2, k3, k5, k4⟩ := hc.inv.φ _ _ _ e1'
  rw [hlook] at k1; cases k1
  obtain ⟨us, hus⟩ : ∃ us, us = (a.eval x).cells.toList := ⟨_, rfl⟩
  -- what is written
  have hnew : us.length = i.size ∧ (∀ u ∈ us, u.oneCell' = true) ∧ (∀ y ∈ vs, y.isAgg = false ∧ y.isTup = false) ∧ (∀ (j : Nat) y u, vs[j]? = some y → us[j]? = some u → RV g' (.cell d b (off + j)) y u) := by
    by_cases htip : ∃ s l, v = .tip s l
    · obtain ⟨s, l, rfl⟩ := htip
      have h1 : (a.eval x).oneCell' = true := hv.oneCell rfl rfl
      have h2 := (cells_one h1).1
      simp only [V.stored] at hvs
      rw [hvs] at hs ⊢
      rw [hus, h2]
      refine ⟨by simpa using hs, by simpa using h1, by simp [V.isAgg, V.isTup], fun j y u hj hu => ?_⟩
      cases j with
      | zero => simp at hj hu; subst hj; subst hu; exact hv
      | succ j => simp at hj
    by_cases hna : ∃ l, v = .nagg l
    · obtain ⟨l, rfl⟩ := hna
      simp only [V.stored] at hvs
      simp only [RV] at hv
      obtain ⟨cs', e, h2, h3⟩ := hv
      have hus' : us = cs'.toList := by rw [hus, e]; rfl
      rw [hvs] at hs ⊢
      rw [← hus'] at h2
      refine ⟨by rw [← h2.get.1, hs], fun u hu => ?_, fun y hy => ⟨(h3 y hy).1, (h3 y hy).2.1⟩, fun j y u hj hu => ?_⟩
      · obtain ⟨j, hj⟩ := List.getElem?_of_mem hu
        have hlt : j < l.length := by rw [h2.get.1]; exact (List.getElem?_eq_some_iff.1 hj).1
        have := h2.get.2 j _ u (List.getElem?_eq_getElem hlt) hj
        have q5 := h3 _ (List.getElem_mem hlt)
        exact this.oneCell q5.1 q5.2.1
      · exact (h2.get.2 j y u hj hu).fullAt (h3 y (List.mem_of_getElem? hj)).2.2
    · have hvs' : vs = v.cells.map V.strip := by
        rw [hvs]
        cases v <;> first | rfl | exact absurd ⟨_, _, rfl⟩ htip | exact absurd ⟨_, rfl⟩ hna
      obtain ⟨q1, q2⟩ := hv.cells ht
      have q3 := q1.strips
      rw [← hvs', ← hus] at q3
      have q4 : Flat vs := by rw [hvs']; exact q2.strips
      refine ⟨by rw [← q3.get.1, hs], fun u hu => ?_, q4, fun j y u hj hu => ?_⟩
      · obtain ⟨j, hj⟩ := List.getElem?_of_mem hu
        have hlt : j < vs.length := by rw [q3.get.1]; exact (List.getElem?_eq_some_iff.1 hj).1
        have := q3.get.2 j _ u (List.getElem?_eq_getElem hlt) hj
        have q5 := q4 _ (List.getElem_mem hlt)
        exact this.oneCell q5.1 q5.2
      · rw [hvs'] at q3 hj
        exact q3.anyAt hj hu _
  obtain ⟨n1, n2, n3, n4⟩ := hnew
  obtain ⟨arr, harr⟩ : ∃ arr, arr = (vals.toList.take off ++ us ++ vals.toList.drop (off + us.length)).toArray := ⟨_, rfl⟩
  have hle : off + us.length ≤ vals.toList.length := by rw [n1]; simp; omega
  have harr' : arr.toList = setR vals.toList off us := by rw [harr, setR_eq _ _ _ hle]
  have hinv := hc.inv.write (l := setL cs off vs) (arr := arr) e1' k2 (by rw [setL_length, k3, ← Array.length_toList, ← Array.length_toList (xs := arr), harr', setR_length]) (Flat.setL off k5 n3)
    (fun j y u hj hu => by
      rw [getE_setL _ _ _ _ (by omega)] at hj
      have hu' : arr.toList[j]? = some u := by simpa using hu
      rw [harr, List.toList_toArray] at hu'
      by_cases hq : off ≤ j ∧ j < off + vs.length
      · rw [if_pos hq] at hj
        have : (vals.toList.take off ++ us ++ vals.toList.drop (off + us.length))[j]? = us[j - off]? := by
          rw [List.getElem?_append_left (by simp; omega), List.getElem?_append_right (by simp; omega)]
          congr 1; simp; omega
        rw [this] at hu'
        have := n4 _ _ _ hj hu'
        rwa [show off + (j - off) = j by omega] at this
      · rw [if_neg hq] at hj
        have : (vals.toList.take off ++ us ++ vals.toList.drop (off + us.length))[j]? = vals.toList[j]? := by
          by_cases hjo : j < off
          · rw [List.getElem?_append_left (by simp; omega), List.getElem?_append_left (by simp; omega), List.getElem?_take_of_lt hjo]
          · rw [List.getElem?_append_right (by simp; omega), List.getElem?_drop]
            congr 1; simp; omega
        rw [this] at hu'
        exact k4 _ _ _ hj (by simpa using hu')) (setL_up off (hc.inv.up _ _ _ hlook) hup)
  refine ⟨undef, g', w.setRow blk arr, .inr ⟨?_, rfl⟩, ⟨hinv, hc.gh, hc.tr, by rw [put_length]; exact hc.len⟩, ?_, rfl⟩
  · obtain ⟨ti, u, z, p1, p2, p3, _⟩ := tyOf_spec hi
    have hst := run_storeCells_at P blk off ee us 0 vals w k2 (by rw [Nat.add_zero]; simpa using hle) n2
    rw [Nat.add_zero, ← harr, hus] at hst
    have hsz : (a.eval x).cells.size = ti.size := by rw [p3, ← n1, hus]; simp
    simp [execOp, ho, Instr.storeAt, e2, Instr.sureAddr, storeVar, run_sizeOf' p1, hsz, hst]
  · simp only [RV]
    exact ⟨#[], rfl, by simp only [RVL]⟩
end Go.Eng
/- append. -/
set_option linter.unusedVariables false
set_option linter.unusedSimpArgs false
namespace Go.Eng
open Go.RowKit
variable {P : Program} {A : Ann} {w0 : World} {pend : Nat → Nat → Option Box} {g : G} {m : Mem} {w : World} {gh : Gh} {D : Nat} {tm : List V} {a : Act} {o : Oper}
theorem RE_cells {F : Fz} {b s : Nat} : ∀ {l : List C} {o : Nat}, RE F b o s l → ∃ vss : List (List Value), l.length = vss.length ∧ (∀ (i : Nat) x vs, l[i]? = some x → vss[i]? = some vs → vs.length = s ∧ RC F x vs) ∧ At F b o vss.flatten ∧ vss.flatten.length = l.length * s
  | [], o, _ => ⟨[], rfl, fun i x vs h => by simp at h, fun j u h => by simp at h, by simp⟩
  | x :: l, o, h => by
    simp only [RE] at h
    obtain ⟨⟨vs, h1, h2, h3⟩, h4⟩ := h
    obtain ⟨vss, k1, k2, k3, k4⟩ := RE_cells h4
    refine ⟨vs :: vss, by simp [k1], fun i y us hy hu => ?_, fun j u hj => ?_, ?_⟩
    · cases i with
      | zero => simp at hy hu; subst hy; subst hu; exact ⟨h1, h3⟩
      | succ i => simp at hy hu; exact k2 i y us hy hu
    · rw [List.flatten_cons] at hj
      by_cases hlt : j < vs.length
      · rw [List.getElem?_append_left hlt] at hj; exact h2 j u hj
      · rw [List.getElem?_append_right (by omega)] at hj
        have := k3 _ u hj
        rwa [h1, show o + s + (j - s) = o + j by omega] at this
    · rw [List.flatten_cons, List.length_append, h1, k4, List.length_cons, Nat.succ_mul]; omega
theorem RE_append {F : Fz} {b s : Nat} : ∀ {l l2 : List C} {o : Nat}, RE F b o s l → RE F b (o + l.length * s) s l2 → RE F b o s (l ++ l2)
  | [], l2, o, _, h => by simpa using h
  | x :: l, l2, o, h, h2 => by
    simp only [RE] at h
    simp only [List.cons_append, RE]
    refine ⟨h.1, RE_append h.2 ?_⟩
    rwa [show o + s + l.length * s = o + (x :: l).length * s by rw [List.length_cons, Nat.succ_mul]; omega]
/-- the cells of a slice, read -/
theorem sl_cells (hF : ∀ b i v, g.F b i = some v → w.cell? ⟨b, i, none⟩ = some v) {l : List C} {u : Value} (h : RC g.F (.sl l) [u]) {s : Nat} (hh : headOK s l = true) :
    ∃ ad c, ∃ vss : List (List Value), u = .slice ad l.length c ∧ l.length ≤ c ∧ l.length = vss.length ∧ (∀ (i : Nat) x vs, l[i]? = some x → vss[i]? = some vs → vs.length = s ∧ RC g.F x vs) ∧ vss.flatten.length = l.length * s ∧
      (∀ w', w'.heap = w.heap → (Builtin.firstCells s l.length u).run P w' = .ok (vss.flatten.toArray) w') ∧ (l ≠ [] → ∃ b o, ad = some ⟨b, o, none⟩ ∧ RE g.F b o s l) := by
  simp only [RC] at h
  obtain ⟨ad, n, c, e1, e2, e3, e4⟩ := h
  cases e1
  subst e2
  by_cases hl : l = []
  · subst hl
    refine ⟨ad, c, [], rfl, e3, rfl, fun i x vs h => by simp at h, by simp, fun w' hw' => ?_, fun h => absurd rfl h⟩
    cases ad with
    | none => simp [Builtin.firstCells]
    | some ad => simp [Builtin.firstCells, loadCells, loadCellsFrom]
  · obtain ⟨b, o, s', rfl, hE⟩ := e4 hl
    have := headOK_spec hE hh hl
    subst this
    obtain ⟨vss, k1, k2, k3, k4⟩ := RE_cells hE
    refine ⟨_, c, vss, rfl, e3, k1, k2, k4, fun w' hw' => ?_, fun _ => ⟨b, o, rfl, hE⟩⟩
    exact run_firstCells_some w' s' l.length _ l.length c _ k4 (fun j v hj => by
      rw [add_plain]
      have := hF _ _ _ (k3 j v hj)
      rwa [← cell_of_heap (w := w) (w' := w') (by rw [hw'])] at this)
/-- a new block, its first cells to stay, the rest for the owner of a place -/
def G.tipb (g : G) (b : Nat) (cs : List Value) (q : Own) : G := { g with F := { g.F with c := fun b' i => if b' = b then cs[i]? else g.F b' i }, o := fun b' => if b' = b then some q else g.o b' }
theorem Inv.allocT (h : Inv A w0 pend g m w) (cs : Array Value) (e : TypeId) (fs : List Value) (q : Own) (hfs : ∀ (i : Nat) u, fs[i]? = some u → cs[i]? = some u) (hfin : fs.length ≤ q.fin) (htot : cs.size = q.tot) :
    Inv A w0 pend (g.tipb w.heap.size fs q) m (w.alloc (.cells cs e)) ∧ ∀ S, Ext g (g.tipb w.heap.size fs q) S := by
  have hext : ∀ S, Ext g (g.tipb w.heap.size fs q) S := fun S => ⟨⟨fun b i v hv => by
    have := h.F_lt hv
    show (if b = w.heap.size then _ else _) = _
    rw [if_neg (by omega)]; exact hv, fun _ _ h => h⟩, fun _ _ _ x => x, fun b r hr _ => by
    have := h.o_lt hr
    show (if b = w.heap.size then _ else _) = _
    rw [if_neg (by omega)]; exact hr⟩
  refine ⟨⟨h.laid, h.below.alloc h.below.size _, fun v l hl => ?_, fun b i v hv => ?_, fun b es hb => h.M_alloc hb _, fun d t b hb => ?_, h.inj, fun b r hr => ?_, h.up, h.pend⟩, hext⟩
  · obtain ⟨vs, k1, k2⟩ := h.glob v l hl
    exact ⟨vs, At.mono (hext fun _ => False).F k1, RL.mono (hext fun _ => False).F k2⟩
  · have hv' : (if b = w.heap.size then fs[i]? else g.F b i) = some v := hv
    by_cases hb : b = w.heap.size
    · rw [if_pos hb] at hv'
      subst hb
      unfold World.cell?
      rw [alloc_new]
      simpa using hfs _ _ hv'
    · rw [if_neg hb] at hv'
      exact (World.cell?_of_block (w := w) (Below.heap_alloc w _ b (h.F_lt hv'))).trans (h.F b i v hv')
  · have hlt := h.φ_lt hb
    obtain ⟨c1, c2, c3, l, cs', e', k1, k2, k3, k5, k4⟩ := h.φ d t b hb
    refine ⟨c1, fun i => ?_, ?_, l, cs', e', k1, (Below.heap_alloc w _ b hlt).trans k2, k3, k5, fun i x u hx hu => (k4 i x u hx hu).ext (hext fun _ => False) id id⟩
    · show (if b = w.heap.size then _ else _) = _
      rw [if_neg (by omega)]; exact c2 i
    · show (if b = w.heap.size then _ else _) = _
      rw [if_neg (by omega)]; exact c3
  · have hr' : (if b = w.heap.size then some q else g.o b) = some r := hr
    by_cases hb : b = w.heap.size
    · rw [if_pos hb] at hr'
      cases hr'
      subst hb
      refine ⟨h.below.size, cs, e, alloc_new w _, htot, fun i hi => ?_⟩
      show (if w.heap.size = w.heap.size then _ else _) = _
      rw [if_pos rfl]
      exact List.getElem?_eq_none (by omega)
    · rw [if_neg hb] at hr'
      have hlt := h.o_lt hr'
      obtain ⟨c1, cs', e', k1, k2, k3⟩ := h.o b r hr'
      refine ⟨c1, cs', e', (Below.heap_alloc w _ b hlt).trans k1, k2, fun i hi => ?_⟩
      show (if b = w.heap.size then _ else _) = _
      rw [if_neg hb]; exact k3 i hi
/-- more cells of a block stay -/
def G.more (g : G) (b fin : Nat) (vs : List Value) (q : Own) : G := { g with F := { g.F with c := fun b' i => if b' = b ∧ fin ≤ i ∧ i < fin + vs.length then vs[i - fin]? else g.F b' i }, o := fun b' => if b' = b then some q else g.o b' }
theorem Inv.writeT (h : Inv A w0 pend g m w) {b : Nat} {r : Own} {cs : Array Value} {e : TypeId} {vs : List Value} {q : Own} (hb : g.o b = some r) (hh : w.heap[b]? = some (.cells cs e (0, 0))) (hle : r.fin + vs.length ≤ cs.size)
    (hq : q.fin = r.fin + vs.length) (hq2 : q.tot = r.tot) (hp : ∀ d t i, r.pl ≠ .cell d t i) (hp0 : r.pl ≠ .none) :
    Inv A w0 pend (g.more b r.fin vs q) m (w.setRow b (cs.toList.take r.fin ++ vs ++ cs.toList.drop (r.fin + vs.length)).toArray) ∧ Ext g (g.more b r.fin vs q) (· = r.pl) := by
  obtain ⟨c1, cs0, e0, k1, k2, k3⟩ := h.o _ _ hb
  rw [hh] at k1
  cases k1
  have hFb : ∀ i v, g.F b i = some v → i < r.fin := fun i v hv => by
    rcases Nat.lt_or_ge i r.fin with hlt | hge
    · exact hlt
    · rw [k3 i hge] at hv; cases hv
  have hext : Ext g (g.more b r.fin vs q) (· = r.pl) := ⟨⟨fun b' i v hv => by
    show (if b' = b ∧ r.fin ≤ i ∧ i < r.fin + vs.length then _ else _) = _
    rw [if_neg (fun z => by have := hFb i v (z.1 ▸ hv); omega)]; exact hv, fun _ _ h => h⟩, fun _ _ _ x => x, fun b' x hx hne => by
    show (if b' = b then _ else _) = _
    rw [if_neg (fun z => by subst z; rw [hb] at hx; cases hx; exact hne rfl)]; exact hx⟩
  have hφb : ∀ d t b', g.φ d t = some b' → b' ≠ b := fun d t b' hb' z => by
    obtain ⟨_, _, c3, _⟩ := h.φ _ _ _ hb'
    subst z; rw [hb] at c3; cases c3
  obtain ⟨arr, harr⟩ : ∃ arr, arr = (cs.toList.take r.fin ++ vs ++ cs.toList.drop (r.fin + vs.length)).toArray := ⟨_, rfl⟩
  rw [← harr]
  have hle' : r.fin + vs.length ≤ cs.toList.length := by simpa using hle
  have hg1 : ∀ i, i < r.fin → arr[i]? = cs[i]? := fun i hi => by
    rw [harr, List.getElem?_toArray, List.getElem?_append_left (by simp; omega), List.getElem?_append_left (by simp; omega), List.getElem?_take_of_lt hi]; simp
  have hg2 : ∀ i, r.fin ≤ i → i < r.fin + vs.length → arr[i]? = vs[i - r.fin]? := fun i h1 h2 => by
    rw [harr, List.getElem?_toArray, List.getElem?_append_left (by simp; omega), List.getElem?_append_right (by simp; omega)]
    congr 1; simp; omega
  have hsz : arr.size = cs.size := by rw [harr]; simp; omega
  refine ⟨⟨h.laid, below_setRow h.below c1 arr, fun v l hl => ?_, fun b' i v hv => ?_, fun b' es hb' => by
    obtain ⟨ck, hck⟩ := h.M _ _ hb'
    have hne : b' ≠ b := fun q => by subst q; rw [hh] at hck; cases hck
    exact ⟨ck, (setRow_other w b b' arr hne).trans hck⟩, fun d t b' hb' => ?_, h.inj, fun b' x hx => ?_, h.up, h.pend⟩, hext⟩
  · obtain ⟨us, p1, p2⟩ := h.glob v l hl
    exact ⟨us, At.mono hext.F p1, RL.mono hext.F p2⟩
  · have hv' : (if b' = b ∧ r.fin ≤ i ∧ i < r.fin + vs.length then vs[i - r.fin]? else g.F b' i) = some v := hv
    by_cases hz : b' = b ∧ r.fin ≤ i ∧ i < r.fin + vs.length
    · rw [if_pos hz] at hv'
      obtain ⟨rfl, z1, z2⟩ := hz
      rw [cell_setRow_same w b' i cs arr e (0, 0) hh, hg2 i z1 z2]; exact hv'
    · rw [if_neg hz] at hv'
      by_cases hbb : b' = b
      · subst hbb
        rw [cell_setRow_same w b' i cs arr e (0, 0) hh, hg1 i (hFb i v hv')]
        have := h.F _ _ _ hv'
        simpa [World.cell?, hh] using this
      · rw [cell_of_heap (setRow_other w b b' arr hbb)]; exact h.F _ _ _ hv'
  · have hne := hφb _ _ _ hb'
    obtain ⟨q1, q2, q3, l1, cs1, e1, p1, p2, p3, p5, p4⟩ := h.φ _ _ _ hb'
    refine ⟨q1, fun i => ?_, ?_, l1, cs1, e1, p1, (setRow_other w b b' arr hne).trans p2, p3, p5, fun i x u hx hu => (p4 i x u hx hu).ext hext ?_ ?_⟩
    · show (if b' = b ∧ _ ∧ _ then _ else _) = _
      rw [if_neg (fun z => hne z.1)]; exact q2 i
    · show (if b' = b then _ else _) = _
      rw [if_neg hne]; exact q3
    · exact fun z => hp0 z.symm
    · exact fun z => hp _ _ _ z.symm
  · have hx' : (if b' = b then some q else g.o b') = some x := hx
    by_cases hbb : b' = b
    · rw [if_pos hbb] at hx'
      cases hx'
      subst hbb
      refine ⟨c1, arr, e, setRow_heap w b' cs arr e (0, 0) hh, by rw [hsz, hq2, k2], fun i hi => ?_⟩
      show (if b' = b' ∧ _ ∧ _ then _ else _) = _
      rw [if_neg (fun z => by omega)]
      exact k3 i (by omega)
    · rw [if_neg hbb] at hx'
      obtain ⟨q1, cs1, e1, p1, p2, p3⟩ := h.o _ _ hx'
      refine ⟨q1, cs1, e1, (setRow_other w b b' arr hbb).trans p1, p2, fun i hi => ?_⟩
      show (if b' = b ∧ _ ∧ _ then _ else _) = _
      rw [if_neg (fun z => hbb z.1)]; exact p3 i hi
theorem run_append_room (t t' ty e e' : TypeId) (i : TypeInfo) (ht : P.underlying t = some (.slice e)) (ht' : P.underlying t' = some (.slice e')) (hi : P.info? e = some i) (base : Option Addr) (sLen sCap : Nat) (xa : Option Addr) (n xc : Nat) (news : List Value)
    (hf : (Builtin.firstCells i.size n (.slice xa n xc)).run P w = .ok news.toArray w) (hroom : sLen + n ≤ sCap) {w' : World}
    (hst : ∀ b, base = some b → (storeCells (b.add (sLen * i.size)) news).run P w = .ok () w') (hn : base = none → w' = w) :
    (Builtin.append_ #[t, t'] ty #[.slice base sLen sCap, .slice xa n xc]).run P w = .ok (.slice base (sLen + n) sCap) w' := by
  cases base with
  | none => simp [Builtin.append_, run_underlying ht, run_underlying ht', sizeOf, typeInfo, hi, Builtin.lenOf, hroom, hf, hn rfl]
  | some b => simp [Builtin.append_, run_underlying ht, run_underlying ht', sizeOf, typeInfo, hi, Builtin.lenOf, hroom, hf, hst b rfl]
theorem run_append_grows (t t' ty e e' : TypeId) (i : TypeInfo) (z : Value) (ht : P.underlying t = some (.slice e)) (ht' : P.underlying t' = some (.slice e')) (hi : P.info? e = some i) (hz : i.zero = some z) (base : Option Addr) (sLen sCap : Nat) (xa : Option Addr) (n xc : Nat) (olds news : List Value)
    (hfo : (Builtin.firstCells i.size sLen (.slice base sLen sCap)).run P w.drew = .ok olds.toArray w.drew)
    (hf : (Builtin.firstCells i.size n (.slice xa n xc)).run P w.drew = .ok news.toArray w.drew) (hg : sCap < sLen + n) (h63 : ((sLen + n : Nat) : Int) ≤ 9223372036854775807) (hfit : Builtin.nextslicecap (sLen + n) sCap * i.bytes ≤ 281474976710656) :
    (Builtin.append_ #[t, t'] ty #[.slice base sLen sCap, .slice xa n xc]).run P w = .ok (.slice (some ⟨w.heap.size, 0, none⟩) (sLen + n) (grownCap w (sLen + n) sCap e))
        (w.drew.alloc (.cells (olds.toArray ++ news.toArray ++ Builtin.zeroCells z.cells (grownCap w (sLen + n) sCap e - (sLen + n))) e)) := by
  have hn : ¬ (sLen + n ≤ sCap) := by omega
  have h63' : ¬ (9223372036854775807 < ((sLen : Int) + (n : Int))) := by omega
  have h48' : ¬ (281474976710656 < Builtin.nextslicecap (sLen + n) sCap * i.bytes) := by omega
  simp [Builtin.append_, run_underlying ht, run_underlying ht', sizeOf, typeInfo, zeroValue, hi, hz, Builtin.lenOf, hn, h63', h48', Question.forced, hf, hfo, newRow, grownCap]
  congr 2
  rw [← Array.append_assoc]; congr 1; simp
theorem grownCap_le (w : World) (need old : Nat) (e : TypeId) : need ≤ grownCap w need old e := by
  unfold grownCap Question.cut
  exact Nat.le_add_right _ _
theorem zeroCells_size (z : Array Value) (n : Nat) : (Builtin.zeroCells z n).size = n * z.size := by simp [Builtin.zeroCells]
theorem res_append (h : Ctx A w0 pend gh D g m tm a.tmps w) {c : Call} {s x : Operand} {t t' e e' : TypeId} {os : Option Nat} {l l2 : List C} {i i' ei : TyI} (ho : o.op = .call c) (hc : c.callee = .builtin .append) (hargs : c.args = #[s, x]) (htys : c.argTypes = #[t, t'])
    (hs : raw A tm s = some (.tip os l)) (hx : rdOf A tm x = some (.c (.sl l2))) (hi : tyOf P t = some i) (hk : i.kind = .slice e) (hi' : tyOf P t' = some i') (hk' : i'.kind = .slice e') (he : tyOf P e = some ei)
    (hos : os = none ∨ os = some ei.size) (h0 : 0 < ei.size) (hh1 : headOK ei.size l = true) (hh2 : headOK ei.size l2 = true) (hb : (l.length + l2.length) * ei.bytes ≤ 140737488355328) (h63 : l.length + l2.length ≤ 9223372036854775807) :
    Res P A w0 pend gh D (stripT tm (opTmps [s])) m a o (.tip (some ei.size) (l ++ l2)) w := by
  obtain ⟨i1, u1, z1, a1, a2, a3, _, _, _, _, a8, _⟩ := tyOf_spec hi
  rw [hk] at a8
  have := kind_slice a8; subst this
  obtain ⟨i1', u1', z1', a1', a2', a3', _, _, _, _, a8', _⟩ := tyOf_spec hi'
  rw [hk'] at a8'
  have := kind_slice a8'; subst this
  obtain ⟨i2, u2, z2, b1, b2, b3, b4, b5, b6, b7, _, b9⟩ := tyOf_spec he
  have hzl : z2.cells.size = ei.size := by
    have := (mapM_get b7).1
    simp at this; rw [← this, b9]
  have hv := raw_ok h.inv.glob h.tr hs
  have hv0 := hv
  simp only [RV] at hv
  obtain ⟨hv1, hv2⟩ := hv
  have hx1 := ((reads_ok h.inv.glob h.tr _ _ hx).1.c_one rfl).1
  obtain ⟨ad, cc, vss, e1, e2, e3, e4, e5, e6, e7⟩ := sl_cells (P := P) h.inv.F hv1 hh1
  obtain ⟨xa, xc, uss, f1, f2, f3, f4, f5, f6, f7⟩ := sl_cells (P := P) h.inv.F hx1 hh2
  have hop : ∀ (r : Value) (w' : World), (Builtin.append_ #[t, t'] o.type #[.slice ad l.length cc, .slice xa l2.length xc]).run P w = .ok r w' → (execOp a.eval o).run P w = .ok (.value r) w' := fun r w' hr => by
    simp [execOp, ho, resolve, hc, invoke, builtin, hargs, htys, e1, f1, hr]
  by_cases hroom : l.length + l2.length ≤ cc
  · by_cases hl2 : l2 = []
    · subst hl2
      obtain ⟨g', hc', hvv, hup, _⟩ := take_ok h hs (plD D o.dst)
      have huss : uss = [] := by simpa using f3.symm
      subst huss
      have hrun := run_append_room (P := P) (w := w) t t' o.type e e' i2 a2 a2' b1 ad l.length cc xa 0 xc [] (by rw [b3]; have := f6 w rfl; rw [f1] at this; simpa using this) (by simpa using hroom) (w' := w)
        (fun b hb' => by simp [storeCells]) (fun _ => rfl)
      refine ⟨_, g', w, .inl (hop _ _ (by simpa using hrun)), hc', ?_, rfl⟩
      rw [List.append_nil]
      rw [e1] at hvv
      simp only [RV] at hvv ⊢
      refine ⟨by simpa using hvv.1, fun a' n' c' hu' hn' => ?_⟩
      have hvv2 := hvv.2 a' n' c' (by simpa using hu') hn'
      obtain ⟨b, s', k1, k2, k3⟩ := hvv2
      rcases hos with rfl | rfl
      · cases k2
      · cases k2; exact ⟨b, _, k1, rfl, k3⟩
    · have hlt : l.length < cc := by
        have : 0 < l2.length := List.length_pos_iff.2 hl2
        omega
      obtain ⟨b, s', k1, k2, k3⟩ := hv2 ad l.length cc e1 hlt
      subst k1
      have hs' : s' = ei.size := by
        rcases hos with rfl | rfl
        · cases k2
        · cases k2; rfl
      subst hs'
      -- the place is a temporary
      obtain ⟨st, rfl⟩ : ∃ st, s = .tmp st := by
        cases s with
        | tmp st => exact ⟨st, rfl⟩
        | const cv =>
          exfalso
          simp only [raw, constA] at hs
          split at hs
          · obtain ⟨q, _, hq⟩ := Option.map_eq_some_iff.1 hs
            unfold mkAgg at hq; split at hq <;> cases hq
          · unfold constV at hs
            split at hs <;> cases hs
            cases k2
        | global v' => simp only [raw] at hs; obtain ⟨q, _, hq⟩ := Option.map_eq_some_iff.1 hs; cases hq
        | func f => simp only [raw] at hs; cases hs
      obtain ⟨c1, cs, e0, k4, k5, k6⟩ := h.inv.o _ _ k3
      simp only at k5 k6
      have hlen : uss.flatten.length = l2.length * ei.size := f5
      have hle : l.length * ei.size + uss.flatten.length ≤ cs.size := by
        rw [hlen, k5, ← Nat.add_mul]; exact Nat.mul_le_mul_right _ hroom
      obtain ⟨hinv, hext⟩ := h.inv.writeT (vs := uss.flatten) (q := ⟨plD D o.dst, l.length * ei.size + uss.flatten.length, cc * ei.size⟩) k3 k4 hle rfl rfl (by simp [plOf]) (by simp [plOf])
      have hone : ∀ v ∈ uss.flatten, v.oneCell' = true := fun v hv => by
        obtain ⟨vs, hvs, hvv⟩ := List.mem_flatten.1 hv
        obtain ⟨j, hj⟩ := List.getElem?_of_mem hvs
        have hjl : j < l2.length := by rw [f3]; exact (List.getElem?_eq_some_iff.1 hj).1
        have hrc := (f4 j _ vs (List.getElem?_eq_getElem hjl) hj).2.rlCells
        clear hj hvs
        generalize (l2[j]).cells = xs at hrc
        induction xs generalizing vs with
        | nil => simp only [RL] at hrc; subst hrc; cases hvv
        | cons y ys ih =>
          simp only [RL] at hrc
          obtain ⟨u, r, rfl, q1, q2, q3⟩ := hrc
          cases hvv with
          | head => exact RC.one q1 q2
          | tail _ hvv => exact ih r hvv q3
      have hst := run_storeCells_at P b (l.length * ei.size) e0 uss.flatten 0 cs w k4 (by rw [Nat.add_zero]; exact hle) hone
      rw [Nat.add_zero] at hst
      have hrun := run_append_room (P := P) (w := w) t t' o.type e e' i2 a2 a2' b1 (some ⟨b, 0, none⟩) l.length cc xa l2.length xc uss.flatten (by rw [b3]; have := f6 w rfl; rw [f1] at this; exact this) hroom
        (w' := w.setRow b (cs.toList.take (l.length * ei.size) ++ uss.flatten ++ cs.toList.drop (l.length * ei.size + uss.flatten.length)).toArray)
        (fun b' hb' => by cases hb'; rw [add_plain, b3, Nat.zero_add]; exact hst) (fun hb' => by cases hb')
      refine ⟨_, _, _, .inl (hop _ _ hrun), ⟨hinv, h.gh.ext hext (by simp [plOf]) (fun k t'' hk'' => by simp [plOf]; omega), ?_, h.len⟩, ?_, rfl⟩
      · simp only [opTmps, stripT]; exact TR.strip1 hext h.tr
      · have hF' := hext.F
        simp only [RV]
        refine ⟨?_, fun a' n' c' hu' hn' => ?_⟩
        · simp only [RC]
          refine ⟨_, _, _, rfl, by simp, hroom, fun _ => ⟨b, 0, ei.size, rfl, ?_⟩⟩
          have hE : RE g.F b 0 ei.size l := by
            by_cases hl : l = []
            · subst hl; simp only [RE]
            · obtain ⟨b', o', q1, q2⟩ := e7 hl; cases q1; exact q2
          refine RE_append (RE.mono hF' hE) (RE_flat f3 (fun j y vs hy hvs => ?_) fun j u hj => ?_)
          · obtain ⟨q1, q2⟩ := f4 j y vs hy hvs
            exact ⟨q1, q2.mono hF'⟩
          · have hjl := (List.getElem?_eq_some_iff.1 hj).1
            show (if b = b ∧ _ ∧ _ then _ else _) = _
            rw [if_pos ⟨rfl, by omega, by omega⟩]
            rw [show 0 + l.length * ei.size + j - l.length * ei.size = j by omega]; exact hj
        · cases hu'
          refine ⟨b, ei.size, rfl, rfl, ?_⟩
          show (if b = b then _ else _) = _
          rw [if_pos rfl, hlen, ← Nat.add_mul]
  · have hg : cc < l.length + l2.length := by omega
    have hfit := growslice_fits (bytes := ei.bytes) hg hb
    have hrun := run_append_grows (P := P) (w := w) t t' o.type e e' i2 z2 a2 a2' b1 b6 ad l.length cc xa l2.length xc vss.flatten uss.flatten (by rw [b3]; have := e6 w.drew rfl; rw [e1] at this; exact this) (by rw [b3]; have := f6 w.drew rfl; rw [f1] at this; exact this) hg (by omega) (by rw [b4]; exact hfit)
    obtain ⟨nc, hnc⟩ : ∃ nc, nc = grownCap w (l.length + l2.length) cc e := ⟨_, rfl⟩
    have hncle : l.length + l2.length ≤ nc := by rw [hnc]; exact grownCap_le ..
    rw [← hnc] at hrun
    have hinv0 := h.inv.same (w' := w.drew) rfl rfl rfl rfl
    obtain ⟨cells, hcells⟩ : ∃ cells, cells = vss.flatten.toArray ++ uss.flatten.toArray ++ Builtin.zeroCells z2.cells (nc - (l.length + l2.length)) := ⟨_, rfl⟩
    rw [← hcells] at hrun
    have hsz : cells.size = nc * ei.size := by
      rw [hcells]
      simp only [Array.size_append, List.size_toArray, zeroCells_size, hzl, e5, f5]
      rw [← Nat.add_mul, ← Nat.add_mul]; congr 1; omega
    obtain ⟨hinv, hext⟩ := hinv0.allocT cells e (vss.flatten ++ uss.flatten) ⟨plD D o.dst, (l.length + l2.length) * ei.size, nc * ei.size⟩ (fun j u hj => by
        rw [hcells, Array.getElem?_append_left (by have := (List.getElem?_eq_some_iff.1 hj).1; simpa using this)]
        simpa using hj) (by rw [List.length_append, e5, f5, Nat.add_mul]; exact Nat.le_refl _) hsz
    have hsize : w.drew.heap.size = w.heap.size := rfl
    rw [hsize] at hinv hext
    refine ⟨_, _, _, .inl (hop _ _ hrun), ⟨hinv, h.gh.ext (hext fun _ => False) id (fun _ _ _ => id), ?_, h.len⟩, ?_, rfl⟩
    · cases s with
      | tmp st => simp only [opTmps, stripT]; exact TR.strip1 (hext _) h.tr
      | _ => simpa only [opTmps, stripT] using h.tr.ext (hext fun _ => False) id (fun _ => id)
    · have hF' := (hext fun _ => False).F
      simp only [RV]
      refine ⟨?_, fun a' n' c' hu' hn' => ?_⟩
      · simp only [RC]
        refine ⟨_, _, _, rfl, by simp, hncle, fun _ => ⟨w.heap.size, 0, ei.size, rfl, ?_⟩⟩
        refine RE_flat (vss := vss ++ uss) (by simp [e3, f3]) (fun j y vs hy hvs => ?_) fun j u hj => ?_
        · by_cases hj : j < l.length
          · rw [List.getElem?_append_left hj] at hy
            rw [List.getElem?_append_left (by omega)] at hvs
            obtain ⟨q1, q2⟩ := e4 j y vs hy hvs
            exact ⟨q1, q2.mono hF'⟩
          · rw [List.getElem?_append_right (by omega)] at hy
            rw [List.getElem?_append_right (by omega)] at hvs
            obtain ⟨q1, q2⟩ := f4 _ y vs hy (by rw [e3]; exact hvs)
            exact ⟨q1, q2.mono hF'⟩
        · show (if w.heap.size = w.heap.size then _ else _) = _
          rw [if_pos rfl, Nat.zero_add, ← List.flatten_append]; exact hj
      · cases hu'
        refine ⟨w.heap.size, ei.size, rfl, rfl, ?_⟩
        show (if w.heap.size = w.heap.size then _ else _) = _
        rw [if_pos rfl]
end Go.Eng
/- Each operation, in the weakest precondition's words. -/
set_option linter.unusedVariables false
set_option linter.unusedSimpArgs false
namespace Go.Eng
open Go.RowKit
variable {P : Program} {A : Ann} {cl : CallF} {w0 : World} {pend : Nat → Nat → Option Box} {g : G} {m m' : Mem} {w : World} {gh : Gh} {D ro f : Nat} {draw strict : Bool} {tm : List V} {a : Act} {o : Oper} {v : V}
/-- what an operation is to do -/
def Good (P : Program) (A : Ann) (w0 : World) (pend : Nat → Nat → Option Box) (gh : Gh) (D : Nat) (tm' : List V) (m' : Mem) (a : Act) (o : Oper) (v : V) (w : World) : Prop :=
  ∀ (K : Act → World → Prop) (Q : Exit → Act → World → Prop), (∀ u g' w', Ctx A w0 pend gh D g' m' tm' a.tmps w' → RV g' (plD D o.dst) v u → v.upTo (D + 1) = true → K (a.put o.dst u) w') → o.upon P a K Q ((execOp a.eval o).run P w)
theorem Res.good {tm' : List V} (h : Res P A w0 pend gh D tm' m' a o v w) : Good P A w0 pend gh D tm' m' a o v w := fun K Q hk => by
  obtain ⟨u, g', w', h1, h2, h3, h4⟩ := h
  rcases h1 with h1 | ⟨h1, rfl⟩
  · rw [h1, Oper.upon_value]; exact hk _ _ _ h2 h3 h4
  · rw [h1, Oper.upon_skip]; exact hk _ _ _ h2 h3 h4
theorem pure_res (h : Ctx A w0 pend gh D g m tm a.tmps w) (hv : pureOp P (rdOf A tm) o = some v) : Res P A w0 pend gh D tm m a o v w := by
  have hr := reads_ok h.inv.glob h.tr
  have hu := pureOp_up (fun x v hx => rd_up h.tr hx) hv
  have hv0 := hv
  unfold pureOp at hv
  split at hv
  · exact res_of_yields h (yields_move hr (.inl ‹_›) hv) hu
  · exact res_of_yields h (yields_move hr (.inr ‹_›) hv) hu
  · exact res_of_yields h (yields_pick hr ‹_› hv0) hu
  · exact res_of_yields h (yields_build hr ‹_› hv0) hu
  · exact res_of_yields h (yields_binOp hr ‹_› hv0) hu
  · exact res_of_yields h (yields_unOp hr ‹_› hv0) hu
  · exact res_of_yields h (yields_convert h.inv.F hr ‹_› hv0) hu
  · exact res_of_yields h (yields_makeFunc hr ‹_› hv0) hu
  · exact res_of_yields h (yields_slice hr ‹_› hv0) hu
  · exact res_of_yields h (yields_fieldAddr hr ‹_› hv0) hu
  · exact res_of_yields h (yields_field hr ‹_› hv0) hu
  · exact res_of_yields h (yields_indexAddr hr ‹_› hv0) hu
  · exact res_of_yields h (yields_index hr ‹_› hv0) hu
  · exact res_of_yields h (yields_extract hr ‹_› hv0) hu
  · exact res_of_yields h (yields_nilCheck hr ‹_› hv0) hu
  · exact res_of_yields h (yields_load h.inv.F hr ‹_› hv0) hu
  · exact res_of_yields h (yields_lookup h.inv.M hr ‹_› hv0) hu
  · exact res_buildSlice h ‹_› hv0
  · rename_i c ho
    split at hv
    · exact res_of_yields h (yields_builtin hr ho ‹_› hv0) hu
    · exact res_of_yields h (yields_builtin hr ho ‹_› hv0) hu
    · exact res_of_yields h (yields_builtin hr ho ‹_› hv0) hu
    · cases hv
  · cases hv
theorem Inv.putSame (h : Inv A w0 pend g m w) {d t blk : Nat} {cs : Box} {off : Nat} {x : V} (hb : g.φ d t = some blk) (hl : look m d t = some cs) (hx : cs[off]? = some x) : Inv A w0 pend g (put m d t (cs.set off x.strip)) w := by
  have hlt := look_lt hl
  have hmem := List.mem_of_getElem? hx
  refine ⟨h.laid, h.below, h.glob, h.F, h.M, fun d' t' b' hb' => ?_, h.inj, h.o, fun d' t' l' hl' => ?_, fun d' t' l' hl' => ?_⟩
  · obtain ⟨c1, c2, c3, l, vals, e, k1, k2, k3, k5, k4⟩ := h.φ _ _ _ hb'
    by_cases hq : d' = d ∧ t' = t
    · obtain ⟨rfl, rfl⟩ := hq
      rw [hl] at k1; cases k1
      refine ⟨c1, c2, c3, cs.set off x.strip, vals, e, by rw [look_put _ _ _ _ _ _ hlt, if_pos ⟨rfl, rfl⟩], k2, by simpa using k3, fun y hy => ?_, fun i y u hy hu => ?_⟩
      · rcases List.mem_or_eq_of_mem_set hy with hy | rfl
        · exact k5 y hy
        · have := k5 x hmem
          cases x <;> simp_all [V.strip, V.isAgg, V.isTup, C.isAgg]
      · rw [List.getElem?_set] at hy
        split at hy
        · rename_i e1
          subst e1
          split at hy
          · cases hy; exact (k4 _ _ _ hx hu).strip
          · cases hy
        · exact k4 _ _ _ hy hu
    · exact ⟨c1, c2, c3, l, vals, e, by rw [look_put _ _ _ _ _ _ hlt, if_neg hq]; exact k1, k2, k3, k5, k4⟩
  · rw [look_put _ _ _ _ _ _ hlt] at hl'
    split at hl'
    · rename_i q; cases hl'; rw [q.1]
      have := h.up _ _ _ hl
      exact upToL_set this (upTo_strip ((upToL_mem.1 this) x hmem))
    · exact h.up _ _ _ hl'
  · obtain ⟨p1, p2⟩ := h.pend _ _ _ hl'
    refine ⟨p1, ?_⟩
    rw [look_put _ _ _ _ _ _ hlt, if_neg (fun q => by rw [q.1, q.2, hb] at p1; cases p1)]
    exact p2
/-- the right of a box's cell, given away: the cell bears none any more -/
theorem mv_invC (h : Inv A w0 pend g m w) {b : Nat} {q : Pl} {f n d t off : Nat} {cs : Box} {x : V} (hb : g.o b = some ⟨.cell d t off, f, n⟩) (hl : look m d t = some cs) (hx : cs[off]? = some x) (hs : x.strip = x) : Inv A w0 pend (g.mv b q) m w := by
  have he := mv_ext (q := q) hb
  refine ⟨h.laid, h.below, fun v l hl => h.glob v l hl, h.F, h.M, fun d' t' c hc => ?_, h.inj, fun c r hr => ?_, h.up, h.pend⟩
  · obtain ⟨c1, c2, c3, l, vals, e, k1, k2, k3, k5, k4⟩ := h.φ d' t' c hc
    refine ⟨c1, c2, ?_, l, vals, e, k1, k2, k3, k5, fun i y u hy hu => ?_⟩
    · show (if c = b then _ else _) = _
      rw [if_neg (fun e => by subst e; rw [hb] at c3; cases c3)]
      exact c3
    · by_cases hq : (Pl.cell d' t' i) = .cell d t off
      · cases hq
        rw [hl] at k1; cases k1
        rw [hx] at hy; cases hy
        have := (k4 _ _ _ hx hu).strip (q := .none)
        have := this.ext he (by simp) (by simp)
        rw [hs] at this
        exact this.any hs _
      · exact (k4 i y u hy hu).ext he (by simp) hq
  · have hr' : (if c = b then (g.o b).map fun x => { x with pl := q } else g.o c) = some r := hr
    by_cases hc : c = b
    · rw [if_pos hc, hb] at hr'
      cases hr'
      subst hc
      obtain ⟨c1, cs, e, k1, k2, k3⟩ := h.o c _ hb
      exact ⟨c1, cs, e, k1, k2, k3⟩
    · rw [if_neg hc] at hr'
      exact h.o c r hr'
theorem res_loadTake (h : Ctx A w0 pend gh D g m tm a.tmps w) {t : TypeId} {y : Operand} {i : TyI} {d b off : Nat} {cs : Box} {x : V} (ho : o.op = .load t y) (hy : rdOf A tm y = some (.p d b off)) (hlook : look m d b = some cs) (hi : tyOf P t = some i)
    (ha : i.agg = false) (hx : cs[off]? = some x) : Res P A w0 pend gh D tm (put m d b (cs.set off x.strip)) a o x w := by
  obtain ⟨h1, _⟩ := reads_ok h.inv.glob h.tr _ _ hy
  simp only [RV] at h1
  obtain ⟨blk, e1, e2⟩ := h1
  obtain ⟨_, _, _, l, vals, e, k1, k2, k3, k5, k4⟩ := h.inv.φ _ _ _ e1
  rw [hlook] at k1; cases k1
  have hlt : off < vals.size := by rw [← k3]; exact (List.getElem?_eq_some_iff.1 hx).1
  have hu : vals[off]? = some vals[off] := Array.getElem?_eq_getElem hlt
  obtain ⟨u, hu'⟩ : ∃ u, u = vals[off] := ⟨_, rfl⟩
  rw [← hu'] at hu
  have hrx := k4 _ _ _ hx hu
  have hrun : (execOp a.eval o).run P w = .ok (.value u) w := by
    obtain ⟨ti, ud, z, p1, p2, p3, _, p5, _⟩ := tyOf_spec hi
    have hc : w.cell? ⟨blk, off, none⟩ = some u := by simp [World.cell?, k2, hu]
    have hag : isAggD ud = false := by rw [← p5]; exact ha
    have : (loadVar t ⟨blk, off, none⟩).run P w = .ok u w := by
      simp only [loadVar, Sem.run_bind, run_isAgg p2, Result.andThen_ok, hag]
      simp [load, Sem.run, hc]
    simp [execOp, ho, Instr.loadAt, e2, Instr.sureAddr, this]
  have hup : x.upTo (D + 1) = true := by
    have hd := h.inv.up _ _ _ hlook
    have hdl := look_lt hlook
    exact upTo_le (by have := h.len; omega) ((upToL_mem.1 hd) x (List.mem_of_getElem? hx))
  have hinv := h.inv.putSame e1 hlook hx
  have hlook' : look (put m d b (cs.set off x.strip)) d b = some (cs.set off x.strip) := by rw [look_put _ _ _ _ _ _ (look_lt hlook), if_pos ⟨rfl, rfl⟩]
  have hget' : (cs.set off x.strip)[off]? = some x.strip := by
    rw [List.getElem?_set]; simp [(List.getElem?_eq_some_iff.1 hx).1]
  have hlen' : (put m d b (cs.set off x.strip)).length = D + 1 := by rw [put_length]; exact h.len
  have plain : RV g (plD D o.dst) x u → Res P A w0 pend gh D tm (put m d b (cs.set off x.strip)) a o x w := fun hr =>
    ⟨u, g, w, .inl hrun, ⟨hinv, h.gh, h.tr, hlen'⟩, hr, hup⟩
  match x, hrx with
  | .tip s l, hrx =>
    have hrx' := hrx
    simp only [RV] at hrx
    obtain ⟨r1, r2⟩ := hrx
    have r1' := r1
    simp only [RC] at r1
    obtain ⟨ad, n, c, hu2, _⟩ := r1
    have hu2 : u = .slice ad n c := by simpa using hu2
    by_cases hn : n < c
    · obtain ⟨bb, s', q1, q2, q3⟩ := r2 ad n c hu2 hn
      have he := mv_ext (q := plD D o.dst) q3
      refine ⟨u, g.mv bb (plD D o.dst), w, .inl hrun, ⟨mv_invC hinv q3 hlook' hget' (strip_strip _), h.gh.ext he (by simp) (fun _ _ _ => by simp), h.tr.ext he (by simp) (fun _ => by simp), hlen'⟩, ?_, hup⟩
      simp only [RV]
      refine ⟨r1', fun ad' n' c' hu' hn' => ?_⟩
      rw [hu2] at hu'
      cases hu'
      exact ⟨bb, s', q1, q2, by show (if bb = bb then _ else _) = _; rw [if_pos rfl, q3]; rfl⟩
    · refine plain ?_
      simp only [RV]
      refine ⟨r1', fun ad' n' c' hu' hn' => ?_⟩
      rw [hu2] at hu'
      cases hu'
      exact absurd hn' hn
  | .c y, hrx => exact plain (hrx.any rfl _)
  | .p _ _ _, hrx => exact plain (hrx.any rfl _)
  | .agg _, hrx => exact plain (hrx.any rfl _)
  | .tup _, hrx => exact plain (hrx.any rfl _)
  | .fn _ _, hrx => exact plain (hrx.any rfl _)
  | .undef, hrx => exact plain trivial
  | .nagg _, hrx => exact plain (by simpa only [RV] using hrx)
theorem rdOf_set {t : Nat} (x : Operand) : rdOf A (tm.set t (rawT tm t).strip) x = rdOf A tm x := by
  cases x with
  | tmp s =>
    simp only [rdOf, raw]
    have : rawT (tm.set t (rawT tm t).strip) s = if s = t then (rawT tm t).strip else rawT tm s := by
      unfold rawT
      simp only [List.getD_eq_getElem?_getD, List.getElem?_set]
      by_cases h : t = s
      · subst h
        rw [if_pos rfl, if_pos rfl]
        by_cases hl : t < tm.length
        · simp [hl]
        · simp [hl, V.strip]
      · rw [if_neg h, if_neg (fun q => h q.symm)]
    rw [this]
    by_cases h : s = t
    · subst h
      rw [if_pos rfl]
      cases rawT tm s <;> rfl
    · rw [if_neg h]
  | _ => rfl
theorem raw_set {t : Nat} {x : Operand} {y : V} (h : x ≠ .tmp t) : raw A (tm.set t y) x = raw A tm x := by
  cases x with
  | tmp s =>
    have hs : t ≠ s := fun e => h (by rw [e])
    simp only [raw]
    have : rawT (tm.set t y) s = rawT tm s := by
      unfold rawT
      simp only [List.getD_eq_getElem?_getD, List.getElem?_set, if_neg hs]
    rw [this]
  | _ => rfl
theorem rtAll_same {gi : Nat} {tm' : List V} : ∀ {xs : List Operand} {i : Nat}, (∀ x ∈ xs, rdOf A tm' x = rdOf A tm x) → (∀ t, t ∈ takesArgs A gi i xs → raw A tm' (.tmp t) = raw A tm (.tmp t)) →
    rtAll gi A (rdOf A tm') (raw A tm') i xs = rtAll gi A (rdOf A tm) (raw A tm) i xs
  | [], i, _, _ => rfl
  | x :: xs, i, h1, h2 => by
    simp only [rtAll]
    rw [rtAll_same (xs := xs) (i := i + 1) (fun y hy => h1 y (List.mem_cons_of_mem _ hy)) (fun t ht => h2 t (by simp only [takesArgs]; exact List.mem_append_right _ ht)), h1 x (List.mem_cons_self ..)]
    by_cases hta : A.ta gi i = true
    · rw [if_pos hta, if_pos hta]
      have : raw A tm' x = raw A tm x := by
        cases x with
        | tmp t => exact h2 t (by simp only [takesArgs, hta, if_true, opTmps]; simp)
        | _ => rfl
      rw [this]
    · rw [if_neg hta, if_neg hta]
theorem args_ok {gi : Nat} : ∀ {xs : List Operand} {vs : List V} {i : Nat} {g : G} {tm : List V}, Ctx A w0 pend gh D g m tm a.tmps w → nodupB (takesArgs A gi i xs) = true → rtAll gi A (rdOf A tm) (raw A tm) i xs = some vs →
    ∃ g', Ctx A w0 pend gh D g' m (stripT tm (takesArgs A gi i xs)) a.tmps w ∧ vs.length = xs.length ∧ (∀ (j : Nat) x u, vs[j]? = some x → (xs.map a.eval)[j]? = some u → RV g' (.tmp (D + 1) (i + j)) x u) ∧ upToL (D + 1) vs = true ∧ Ext g g' (fun p => ∃ t, p = .tmp D t)
  | [], vs, i, g, tm, h, _, hv => by
    simp only [rtAll] at hv; cases hv
    exact ⟨g, h, rfl, fun j x u hx => by simp at hx, rfl, Ext.refl g _⟩
  | x :: xs, vs, i, g, tm, h, hn, hv => by
    simp only [rtAll] at hv
    split at hv
    · rename_i v vs' hv1 hv2
      cases hv
      by_cases hta : A.ta gi i = true
      · rw [if_pos hta] at hv1
        obtain ⟨g1, h1, h2, h3, h4⟩ := take_ok h hv1 (.tmp (D + 1) i)
        simp only [takesArgs, hta, if_true] at hn ⊢
        have hstrip : ∀ (l1 l2 : List Nat) (tm : List V), stripT tm (l1 ++ l2) = stripT (stripT tm l1) l2 := by
          intro l1
          induction l1 with
          | nil => intro l2 tm; rfl
          | cons y l ih => intro l2 tm; simp only [List.cons_append, stripT]; exact ih _ _
        rw [hstrip]
        have hn2 : nodupB (takesArgs A gi (i + 1) xs) = true := by
          cases x <;> simp only [opTmps, List.cons_append, List.nil_append, nodupB, Bool.and_eq_true] at hn <;> first | exact hn.2 | exact hn
        have hv2' : rtAll gi A (rdOf A (stripT tm (opTmps [x]))) (raw A (stripT tm (opTmps [x]))) (i + 1) xs = some vs' := by
          rw [← hv2]
          cases x with
          | tmp t =>
            simp only [opTmps, stripT]
            refine rtAll_same (fun y _ => rdOf_set y) fun s hs => raw_set ?_
            intro e; cases e
            simp only [opTmps, List.cons_append, List.nil_append, nodupB, Bool.and_eq_true, Bool.not_eq_true', List.contains_eq_mem, decide_eq_false_iff_not] at hn
            exact hn.1 hs
          | _ => rfl
        obtain ⟨g', k1, k2, k3, k4, k5⟩ := args_ok h1 hn2 hv2'
        refine ⟨g', k1, by simp [k2], fun j y u hy hu => ?_, by simp only [upToL, h3, k4]; rfl, ?_⟩
        · cases j with
          | zero =>
            simp at hy hu; subst hy; subst hu
            exact h2.ext k5 (by simp) (by simp)
          | succ j =>
            simp at hy hu
            have := k3 j y u hy (by simpa using hu)
            rwa [show i + 1 + j = i + (j + 1) by omega] at this
        · exact Ext.trans ⟨h4.F, h4.φ, fun b q hq hne => h4.o b q hq fun ⟨t, _, e⟩ => hne ⟨t, e⟩⟩ k5
      · rw [if_neg hta] at hv1
        simp only [takesArgs, hta] at hn ⊢
        obtain ⟨g', k1, k2, k3, k4, k5⟩ := args_ok h (by simpa using hn) hv2
        have hr := reads_ok h.inv.glob h.tr _ _ hv1
        refine ⟨g', by simpa using k1, by simp [k2], fun j y u hy hu => ?_, by simp only [upToL, rd_up h.tr hv1, k4]; rfl, k5⟩
        cases j with
        | zero =>
          simp at hy hu; subst hy; subst hu
          exact (hr.1.ext k5 (by simp) (by simp)).any hr.2 _
        | succ j =>
          simp at hy hu
          have := k3 j y u hy (by simpa using hu)
          rwa [show i + 1 + j = i + (j + 1) by omega] at this
    · cases hv
/-- a call of a function that keeps its word -/
theorem good_call (hcl : CallOK P A cl) (h : Ctx A w0 pend gh D g m tm a.tmps w) {tm' : List V} {g1 : G} (h1 : Ctx A w0 pend gh D g1 m tm' a.tmps w) {f : FuncId} {vs : List V} {vals : Array Value}
    (hrun : ∀ w, (callFunc f vals).run P w = .ok (.enter f vals) w → (execOp a.eval o).run P w = .ok (.enter f vals) w) (hlen : vs.length = vals.size)
    (hrel : ∀ (j : Nat) x u, vs[j]? = some x → vals[j]? = some u → RV g1 (.tmp (D + 1) j) x u) (hup : upToL (D + 1) vs = true) (hc : callQ cl ro strict f vs m = some (v, m')) :
    Good P A w0 pend gh D tm' m' a o v w := fun K Q hk => by
  obtain ⟨ro', r, m'', hc1, rfl, hm⟩ : ∃ ro' r m'', cl ro' f vs m = some (r, m'') ∧ r = v ∧ m'' = m' := by
    unfold callQ at hc
    split at hc
    · split at hc
      · rename_i r m'' hcc
        cases hc
        exact ⟨_, _, _, hcc, rfl, hcl.ro _ _ _ _ _ _ hcc (Nat.le_refl _)⟩
      · cases hc
    · exact ⟨_, _, _, hc, rfl, rfl⟩
  subst hm
  have hgh : GHR g1 m.length (fun k => if k = D then (tm', a.tmps) else gh k) := fun k hk' => by
    rw [h.len] at hk'
    by_cases hkd : k = D
    · subst hkd; simpa using h1.tr
    · simp only [if_neg hkd]; exact h1.gh k (by omega)
  have := hcl.call _ _ _ _ _ _ hc1 w0 pend g1 w _ vals h1.inv hgh hlen (by rw [h.len]; exact hrel) (by rw [h.len]; exact hup)
  rw [hrun w (hcl.fn _ _ _ _ _ hc1 _ _), Oper.upon_enter]
  refine this.mono fun e w' he => ?_
  obtain ⟨u, g', rfl, i1, i2, i3⟩ := he
  obtain ⟨g2, e1, e2, e3⟩ := tip_move i1 (q := plD D o.dst) i3 (fun _ _ _ => by simp) (by simp)
  have i2' : GHR g2 m.length (fun k => if k = D then (tm', a.tmps) else gh k) := i2.ext e1 (by simp) (fun _ _ _ => by simp)
  refine hk u g2 w' ⟨e2, fun k hk' => ?_, ?_, by rw [hcl.len _ _ _ _ _ _ hc1]; exact h.len⟩ e3 ?_
  · have := i2' k (by rw [h.len]; omega)
    simpa only [if_neg (show ¬ k = D by omega)] using this
  · have := i2' D (by rw [h.len]; omega)
    simpa only [if_true] using this
  · have := hcl.up _ _ _ _ _ _ hc1
    rwa [h.len] at this
def pendO (o : Oper) (D : Nat) (draw : Bool) (pend : Nat → Nat → Option Box) : Nat → Nat → Option Box :=
  match o.op, o.dst with
  | .alloc _, some d => if draw then fun d' t' => if d' = D ∧ t' = d then none else pend d' t' else pend
  | _, _ => pend
theorem rd_c {x : Operand} {l : List C} (h : (rdOf A tm x).bind slLen = some l) : rdOf A tm x = some (.c (.sl l)) := by
  obtain ⟨y, hy, hl⟩ := Option.bind_eq_some_iff.1 h
  obtain ⟨z, hz, rfl⟩ := Option.map_eq_some_iff.1 hy
  rw [hy]
  cases z <;> simp only [V.strip, slLen] at hl ⊢ <;> first | (cases hl; rfl) | (cases hl; done) | skip
  rename_i x
  cases x <;> simp only [slLen] at hl <;> first | (cases hl; rfl) | (cases hl; done)
theorem core_ok (hcl : CallOK P A cl) (h : Ctx A w0 pend gh D g m tm a.tmps w) (hc : core P A cl ro f draw strict o (rdOf A tm) (raw A tm) m = some (v, m'))
    (hp : ∀ t d, o.op = .alloc t → o.dst = some d → draw = true → ∃ i, tyOf P t = some i ∧ pend D d = some i.zero) : Good P A w0 (pendO o D draw pend) gh D (stripT tm (takes A f o)) m' a o v w := by
  have hr := reads_ok h.inv.glob h.tr
  unfold core at hc
  split at hc
  · rename_i x ho
    obtain ⟨v', hv', e⟩ := Option.map_eq_some_iff.1 hc
    cases e
    have : takes A f o = opTmps [x] := by simp only [takes, ho]
    rw [this]
    have hpd : pendO o D draw pend = pend := by simp only [pendO, ho]
    rw [hpd]
    exact (res_take h (.inl ho) hv').good
  · rename_i x ho
    have hpd : pendO o D draw pend = pend := by simp only [pendO, ho]
    rw [hpd]
    split at hc
    · rename_i d hd
      obtain ⟨v', hv', e⟩ := Option.map_eq_some_iff.1 hc
      cases e
      by_cases ht : A.tk f d = true
      · rw [if_pos ht] at hv'
        have : takes A f o = opTmps [x] := by simp only [takes, ho, hd, ht, if_true]
        rw [this]
        exact (res_take h (.inr ho) hv').good
      · rw [if_neg ht] at hv'
        have : takes A f o = [] := by simp only [takes, ho, hd, ht]; rfl
        rw [this]
        exact (res_of_yields h (yields_move hr (.inl ho) hv') (rd_up h.tr hv')).good
    · cases hc
  · rename_i t x ho
    have hpd : pendO o D draw pend = pend := by simp only [pendO, ho]
    have htk : takes A f o = [] := by simp only [takes, ho]
    rw [hpd, htk]
    split at hc
    · rename_i d b off hx
      split at hc
      · rename_i cs i hl hi
        split at hc
        · rename_i hs
          split at hc
          · rename_i dst hd
            split at hc
            · rename_i hcond
              simp only [Bool.and_eq_true, Bool.not_eq_true'] at hcond
              split at hc
              · cases hc
              split at hc
              · rename_i x' hx'
                split at hc
                · cases hc
                  exact (res_loadTake h ho hx hl hi hcond.2 hx').good
                · cases hc
              · cases hc
            · obtain ⟨v', hv', e⟩ := Option.map_eq_some_iff.1 hc
              cases e
              exact (res_load h ho hx hl hi hs hv').good
          · cases hc
        · cases hc
      · cases hc
    · obtain ⟨v', hv', e⟩ := Option.map_eq_some_iff.1 hc
      cases e
      exact (pure_res h hv').good
  · rename_i t y x ho
    have hpd : pendO o D draw pend = pend := by simp only [pendO, ho]
    have htk : takes A f o = opTmps [x] := by simp only [takes, ho]
    rw [hpd, htk]
    split at hc
    · cases hc
    · split at hc
      · rename_i d b off v' i hy hx hi
        split at hc
        · rename_i cs hl
          split at hc
          · rename_i hcond
            cases hc
            exact (res_store h ho hy hx hi hl rfl hcond.1 hcond.2.1 hcond.2.2.1 hcond.2.2.2.1).good
          · cases hc
        · cases hc
      · cases hc
  · rename_i t ho
    have htk : takes A f o = [] := by simp only [takes, ho]
    rw [htk]
    split at hc
    · rename_i d fr r hd
      have hD : r.length = D := by have := h.len; simpa using this
      split at hc
      · rename_i hdr
        cases hc
        obtain ⟨i, hi, hz⟩ := hp t d ho hd hdr
        have hpd : pendO o D draw pend = fun d' t' => if d' = D ∧ t' = d then none else pend d' t' := by simp only [pendO, ho, hd, hdr, if_true]
        rw [hpd]
        refine (res_alloc_pend h ho hi (by rw [hD]; exact hz) fun d' t' b hb => ?_).good
        split at hb
        · cases hb
        · rename_i hq; rw [hD]; exact ⟨hb, hq⟩
      · rename_i hdr
        have hpd : pendO o D draw pend = pend := by simp only [pendO, ho, hd]; rw [if_neg hdr]
        rw [hpd]
        split at hc
        · rename_i i hl hi
          cases hc
          exact (res_alloc h ho hl hi).good
        · cases hc
    · cases hc
  · rename_i t x ho
    have hpd : pendO o D draw pend = pend := by simp only [pendO, ho]
    have htk : takes A f o = [] := by simp only [takes, ho]
    rw [hpd, htk]
    split at hc
    · cases hc
    · split at hc
      · rename_i d fr r v' i hd hx hi
        split at hc
        · split at hc
          · rename_i y
            split at hc
            · cases hc
              exact (res_boxF h ho hx).good
            · cases hc
          · cases hc
        split at hc
        · rename_i hl
          split at hc
          · rename_i l hx'
            split at hc
            · rename_i hs
              cases hc
              exact (res_boxN h ho hl hx' hs).good
            · cases hc
          · split at hc
            · rename_i hcond
              cases hc
              exact (res_box h ho hl hx hcond.1 hcond.2.1 hcond.2.2).good
            · cases hc
          · cases hc
        · cases hc
      · cases hc
  · rename_i c ho
    have hpd : pendO o D draw pend = pend := by simp only [pendO, ho]
    rw [hpd]
    split at hc
    · rename_i hcal
      obtain ⟨v0, hv0, e⟩ := Option.map_eq_some_iff.1 hc
      cases e
      clear hc
      unfold appendV at hv0
      split at hv0
      · rename_i s x t t' hargs htys
        have htk : takes A f o = opTmps [s] := by simp only [takes, ho, hcal, hargs]
        rw [htk]
        split at hv0
        · rename_i os l l2 i i' hs hx hi hi'
          split at hv0
          · rename_i e e' hk hk'
            split at hv0
            · rename_i ei he
              split at hv0
              · rename_i hcond
                cases hv0
                obtain ⟨q1, q2, q3, q4, q5, q6⟩ := hcond
                have hs' : raw A tm s = some (.tip os l) := by
                  obtain ⟨y, hy, hl⟩ := Option.bind_eq_some_iff.1 hs
                  cases y <;> simp only [tip?] at hl <;> first | (cases hl; exact hy) | (cases hl; done)
                exact (res_append h ho hcal (by apply Array.ext'; simpa using hargs) (by apply Array.ext'; simpa using htys) hs' (rd_c hx) hi hk hi' hk' he q1 q2 q3 q4 q5 q6).good
              · cases hv0
            · cases hv0
          · cases hv0
        · cases hv0
      · cases hv0
    · rename_i gi hcal
      have htk : takes A f o = takesArgs A gi 0 c.args.toList := by simp only [takes, ho, hcal]
      rw [htk]
      split at hc
      · cases hc
      · rename_i hnd
        split at hc
        · rename_i vs hvs
          obtain ⟨g1, k1, k2, k3, k4, k5⟩ := args_ok h (by simpa using hnd) hvs
          refine good_call hcl h k1 (vals := c.args.map a.eval) (fun w hw => ?_) (by simpa using k2) (fun j x u hx hu => by have := k3 j x u hx (by simpa using hu); rwa [Nat.zero_add] at this) k4 hc
          simp [execOp, ho, resolve, hcal, Act.eval, Deferred.ofValue, invoke, hw]
        · cases hc
    · rename_i x hne hcal
      have htk : takes A f o = [] := by
        simp only [takes, ho, hcal]
        cases x <;> first | rfl | (exact absurd rfl (hne _))
      rw [htk]
      split at hc
      · rename_i gi caps vs hx hvs
        obtain ⟨q1, q2⟩ := rdAll_ok hr hvs
        have hxx := ((hr _ _ hx).1.c_one rfl).1
        simp only [RC] at hxx
        obtain ⟨ca, e1, e2⟩ := hxx
        have e1' : a.eval x = .func (.func gi) #[] ca := by simpa using e1
        have hca : RVL g (caps.map .c) ca.toList := by
          generalize ca.toList = cl' at e2
          clear e1 e1' hc hx
          induction caps generalizing cl' with
          | nil => simp only [RA] at e2; subst e2; simp only [List.map_nil, RVL]
          | cons y l ih =>
            simp only [RA] at e2
            obtain ⟨u, r, rfl, p1, p2, p3⟩ := e2
            simp only [List.map_cons, RVL]
            exact ⟨u, r, rfl, by simp only [RV]; exact ⟨p1, p2⟩, ih _ p3⟩
        have hstr : ∀ y ∈ vs ++ caps.map V.c, y.strip = y := fun y hy => by
          rcases List.mem_append.1 hy with hy | hy
          · exact q2 y hy
          · simp only [List.mem_map] at hy; obtain ⟨z, _, rfl⟩ := hy; rfl
        refine good_call hcl h h (vals := c.args.map a.eval ++ ca) (fun w hw => ?_) ?_ (fun j y u hy hu => ?_) ?_ hc
        · simp [execOp, ho, resolve, hcal, e1', Deferred.ofValue, invoke, hw]
        · have r1 := q1.get.1; have r2 := hca.get.1
          simp at r1 r2 ⊢; omega
        · have hall : RVL g (vs ++ caps.map V.c) (c.args.toList.map a.eval ++ ca.toList) := by
            obtain ⟨r1, r2⟩ := q1.get
            obtain ⟨r3, r4⟩ := hca.get
            refine RVL.mk (by simp at r1 r3 ⊢; omega) fun i x u hx hu => ?_
            by_cases hi : i < vs.length
            · rw [List.getElem?_append_left hi] at hx; rw [List.getElem?_append_left (by omega)] at hu; exact r2 i x u hx hu
            · rw [List.getElem?_append_right (by omega)] at hx; rw [List.getElem?_append_right (by omega)] at hu; exact r4 _ x u hx (by rw [r1]; exact hu)
          exact (hall.get.2 j y u hy (by rw [← Array.toList_map, ← Array.toList_append, Array.getElem?_toList]; exact hu)).any (hstr y (List.mem_of_getElem? hy)) _
        · rw [upToL_mem]
          intro y hy
          rcases List.mem_append.1 hy with hy | hy
          · exact (upToL_mem.1 (rdAll_up (fun x v hx => rd_up h.tr hx) hvs)) y hy
          · simp only [List.mem_map] at hy; obtain ⟨z, _, rfl⟩ := hy; rfl
      · rename_i gi caps vs hx hvs
        obtain ⟨q1, q2⟩ := rdAll_ok hr hvs
        have hxx := (hr _ _ hx).1
        simp only [RV] at hxx
        obtain ⟨ca, e1', hca⟩ := hxx
        refine good_call hcl h h (vals := c.args.map a.eval ++ ca) (fun w hw => ?_) ?_ (fun j y u hy hu => ?_) ?_ hc
        · simp [execOp, ho, resolve, hcal, e1', Deferred.ofValue, invoke, hw]
        · have r1 := q1.get.1; have r2 := hca.get.1
          simp at r1 r2 ⊢; omega
        · have hca := hca.strips
          have hstr : ∀ y ∈ vs ++ caps.map V.strip, y.strip = y := fun y hy => by
            rcases List.mem_append.1 hy with hy | hy
            · exact q2 y hy
            · simp only [List.mem_map] at hy; obtain ⟨z, _, rfl⟩ := hy; exact strip_strip z
          have hall : RVL g (vs ++ caps.map V.strip) (c.args.toList.map a.eval ++ ca.toList) := by
            obtain ⟨r1, r2⟩ := q1.get
            obtain ⟨r3, r4⟩ := hca.get
            refine RVL.mk (by simp at r1 r3 ⊢; omega) fun i x u hx hu => ?_
            by_cases hi : i < vs.length
            · rw [List.getElem?_append_left hi] at hx; rw [List.getElem?_append_left (by omega)] at hu; exact r2 i x u hx hu
            · rw [List.getElem?_append_right (by omega)] at hx; rw [List.getElem?_append_right (by omega)] at hu; exact r4 _ x u hx (by rw [r1]; exact hu)
          exact (hall.get.2 j y u hy (by rw [← Array.toList_map, ← Array.toList_append, Array.getElem?_toList]; exact hu)).any (hstr y (List.mem_of_getElem? hy)) _
        · rw [upToL_mem]
          intro y hy
          rcases List.mem_append.1 hy with hy | hy
          · exact (upToL_mem.1 (rdAll_up (fun x v hx => rd_up h.tr hx) hvs)) y hy
          · have := rd_up h.tr hx
            simp only [V.upTo] at this
            exact (upToL_mem.1 (upToL_strips this)) y hy
      · cases hc
    · rename_i b hne hcal
      have htk : takes A f o = [] := by
        simp only [takes, ho, hcal]
        cases b <;> first | rfl | exact absurd rfl hne
      rw [htk]
      obtain ⟨v', hv', e⟩ := Option.map_eq_some_iff.1 hc
      cases e
      exact (pure_res h hv').good
    · cases hc
  · rename_i n1 n2 n3 n4 n5 n6 n7
    have hpd : pendO o D draw pend = pend := by
      unfold pendO
      split
      · rename_i t d hal _; exact absurd hal (n5 t)
      · rfl
    have htk : takes A f o = [] := by
      unfold takes
      split <;> first | (exact absurd ‹_› (n1 _)) | (exact absurd ‹_› (n2 _)) | (exact absurd ‹_› (n4 _ _ _)) | (exact absurd ‹_› (n7 _)) | rfl
    rw [hpd, htk]
    obtain ⟨v', hv', e⟩ := Option.map_eq_some_iff.1 hc
    cases e
    exact (pure_res h hv').good
end Go.Eng
/- One operation of a region, and a region in the order of its text. -/
set_option linter.unusedVariables false
set_option linter.unusedSimpArgs false
namespace Go.Eng
open Go.RowKit
variable {P : Program} {A : Ann} {cl : CallF} {w0 : World} {pend : Nat → Nat → Option Box} {g : G} {m m' : Mem} {w : World} {gh : Gh} {D ro f : Nat} {draw : Bool} {tm : List V} {a : Act} {o : Oper} {ops : Array Oper}
theorem wantA_ok (ht : TR g D tm a.tmps) {q : Bool} (h : wantA ops o tm = some q) : Region.wanted o (yielded ops a.tmps) = q := by
  unfold wantA at h
  unfold Region.wanted
  split at h
  · rename_i hg; cases h; rw [hg]
  · rename_i j want hg
    rw [hg]
    simp only
    unfold yielded
    split at h
    · rename_i hd; cases h; rw [hd]; rfl
    · rename_i d hd
      rw [hd]
      simp only [Option.bind_some]
      split at h
      · rename_i b hb
        cases h
        obtain ⟨u, h1, _, h3⟩ := ht.val (rawT_get hb (by simp))
        rw [h1, h3.scalar.1]
        cases b <;> cases want <;> rfl
      · rename_i hb
        cases h
        obtain ⟨u, h1, _, h3⟩ := ht.val (rawT_get hb (by simp))
        simp only [RV] at h3
        obtain ⟨cs, rfl, _⟩ := h3
        rw [h1]; rfl
      · cases h
theorem TR.put (h : TR g D tm a.tmps) {dst : Option Tmp} {v : V} {u : Value} (hv : RV g (plD D dst) v u) (hu : v.upTo (D + 1) = true) : TR g D (putT tm dst v) (a.put dst u).tmps := by
  cases dst with
  | none => exact h
  | some d =>
    simp only [putT, Act.put]
    refine ⟨by simpa using h.size, fun t x y hx hy => ?_, upToL_set h.up hu⟩
    rw [List.getElem?_set] at hx
    rw [Array.getElem?_setIfInBounds] at hy
    split at hx
    · rename_i e
      rw [if_pos e] at hy
      subst e
      split at hx
      · rename_i hlt
        cases hx
        split at hy
        · cases hy; exact hv
        · cases hy
      · cases hx
    · rename_i e
      rw [if_neg e] at hy
      exact h.rel t x y hx hy
theorem Ctx.put (h : Ctx A w0 pend gh D g m tm a.tmps w) {dst : Option Tmp} {v : V} {u : Value} (hv : RV g (plD D dst) v u) (hu : v.upTo (D + 1) = true) : Ctx A w0 pend gh D g m (putT tm dst v) (a.put dst u).tmps w :=
  ⟨h.inv, h.gh, h.tr.put hv hu, h.len⟩
/-- what is asked of the world behind a step -/
def After (A : Ann) (w0 : World) (pend : Nat → Nat → Option Box) (gh : Gh) (D : Nat) (ds : List Deferred) (st : St) (a : Act) (w : World) : Prop := a.defers = ds ∧ ∃ g, Ctx A w0 pend gh D g st.m st.tm a.tmps w
theorem step_ok (hcl : CallOK P A cl) {st st' : St} {ds : List Deferred} (h : After A w0 pend gh D ds st a w) (hs : step P A cl ro f draw ops o st = some st')
    (hp : ∀ t d, o.op = .alloc t → o.dst = some d → draw = true → ∃ i, tyOf P t = some i ∧ pend D d = some i.zero) (hg : draw = true → (∃ t, o.op = .alloc t) → o.guard = none) {K : Act → World → Prop} {Q : Exit → Act → World → Prop}
    (hk : ∀ a' w', After A w0 (pendO o D draw pend) gh D ds st' a' w' → K a' w') :
    if Region.wanted o (yielded ops a.tmps) then o.wp P a w K Q ∨ (o.asks P a w ∧ LetsOut Q) else K (a.put o.dst undef) w := by
  obtain ⟨hd, g, hc⟩ := h
  unfold step at hs
  split at hs
  · rename_i hw
    rw [wantA_ok hc.tr hw]
    simp only [if_true]
    split at hs
    · cases hs
    split at hs
    · rename_i v m' hcore
      cases hs
      refine .inl (core_ok hcl hc hcore hp K Q fun u g' w' h1 h2 h3 => hk _ _ ⟨?_, g', h1.put h2 h3⟩)
      cases hdst : o.dst <;> simp only [hdst, Act.put] <;> exact hd
    · cases hs
  · rename_i hw
    rw [wantA_ok hc.tr hw]
    simp only [Bool.false_eq_true, if_false]
    cases hs
    refine hk _ _ ⟨?_, g, ?_⟩
    · cases hdst : o.dst <;> simp only [hdst, Act.put] <;> exact hd
    · have hpd : pendO o D draw pend = pend := by
        unfold pendO
        split
        · rename_i t d h1 h2
          split
          · rename_i hdr
            have := hg hdr ⟨t, h1⟩
            simp only [wantA, this] at hw
            cases hw
          · rfl
        · rfl
      rw [hpd]
      exact hc.put (v := .tup []) (by simp only [RV]; exact ⟨#[], rfl, by simp only [RVL]⟩) rfl
  · cases hs
theorem steps_ok (hcl : CallOK P A cl) {Q : Exit → Act → World → Prop} {ds : List Deferred} : ∀ (l : List Oper) (k : Nat) {st st' : St} {a : Act} {w : World}, (∀ j, l[j]? = ops[k + j]?) → After A w0 pend gh D ds st a w → steps P A cl ro f false ops l st = some st' →
    (∀ a' w', After A w0 pend gh D ds st' a' w' → Q .normal a' w') → wpOps P ops Q (List.range' k l.length) a w
  | [], k, st, st', a, w, hl, h, hs, hk => by
    simp only [steps] at hs
    cases hs
    simp only [List.length_nil, List.range'_zero, wpOps]
    exact hk _ _ h
  | o :: l, k, st, st', a, w, hl, h, hs, hk => by
    have h0 : ops[k]? = some o := by simpa using (hl 0).symm
    simp only [steps] at hs
    split at hs
    · rename_i st1 hs1
      simp only [List.length_cons, List.range'_succ, wpOps, h0]
      refine step_ok hcl h hs1 (fun _ _ _ _ h => by cases h) (fun h => by cases h) fun a' w' h' => ?_
      have hpd : pendO o D false pend = pend := by unfold pendO; split <;> rfl
      rw [hpd] at h'
      exact steps_ok hcl l (k + 1) (fun j => by have := hl (j + 1); simpa [Nat.add_assoc, Nat.add_comm 1 j] using this) h' hs hk
    · cases hs
/-- nothing hangs on what lies behind in the temporaries -/
theorem stripT_get : ∀ (ts : List Tmp) (tm : List V) (s : Nat), (stripT tm ts)[s]? = if s ∈ ts then (tm[s]?).map V.strip else tm[s]?
  | [], tm, s => by simp [stripT]
  | t :: ts, tm, s => by
    simp only [stripT]
    rw [stripT_get ts _ s]
    have h1 : (tm.set t (rawT tm t).strip)[s]? = if t = s then (tm[s]?).map V.strip else tm[s]? := by
      rw [List.getElem?_set]
      by_cases h : t = s
      · subst h
        rw [if_pos rfl, if_pos rfl]
        by_cases hl : t < tm.length
        · rw [if_pos hl]
          unfold rawT
          rw [List.getD_eq_getElem?_getD, List.getElem?_eq_getElem hl]
          rfl
        · rw [if_neg hl, List.getElem?_eq_none (Nat.le_of_not_lt hl)]; rfl
      · rw [if_neg h, if_neg h]
    rw [h1]
    by_cases h : t = s
    · subst h
      rw [if_pos rfl, if_pos (List.mem_cons_self ..)]
      split
      · cases tm[t]? <;> simp [strip_strip]
      · rfl
    · rw [if_neg h]
      by_cases hm : s ∈ ts
      · rw [if_pos hm, if_pos (List.mem_cons_of_mem _ hm)]
      · rw [if_neg hm, if_neg (by simp [hm]; exact fun e => h e.symm)]
theorem putT_get (tm : List V) (dst : Option Tmp) (v : V) (s : Nat) : (putT tm dst v)[s]? = if dst = some s then (tm[s]?).map (fun _ => v) else tm[s]? := by
  cases dst with
  | none => simp [putT]
  | some d =>
    simp only [putT, Option.some.injEq]
    rw [List.getElem?_set]
    by_cases h : d = s
    · subst h
      rw [if_pos rfl, if_pos rfl]
      by_cases hl : d < tm.length
      · rw [if_pos hl, List.getElem?_eq_getElem hl]; rfl
      · rw [if_neg hl, List.getElem?_eq_none (Nat.le_of_not_lt hl)]; rfl
    · rw [if_neg h, if_neg h]
end Go.Eng
/- Regions that draw their order: the order of the text serves for all. -/
set_option linter.unusedVariables false
set_option linter.unusedSimpArgs false
namespace Go.Eng
open Go.RowKit
variable {P : Program} {A : Ann} {cl : CallF} {ro f : Nat} {ops : Array Oper}
/-- an operation that the boxes have nothing to do with -/
def still (o : Oper) : Bool :=
  match o.op with
  | .move _ | .assign _ | .pick .. | .build .. | .binOp .. | .unOp .. | .convert .. | .makeFunc .. | .slice .. | .fieldAddr .. | .field .. | .indexAddr .. | .index .. | .extract .. | .nilCheck _ | .buildSlice .. | .lookup .. | .alloc _ => true
  | .call c => match c.callee with | .builtin _ => true | _ => false
  | _ => false
theorem bnd_congr {rd rd' : Operand → Option V} {d : Int} {x : Option Operand} (h : ∀ y, x = some y → rd y = rd' y) : bnd rd d x = bnd rd' d x := by
  cases x with
  | none => rfl
  | some y => simp only [bnd, h y rfl]
theorem rdAll_congr {rd rd' : Operand → Option V} : ∀ {xs : List Operand}, (∀ x ∈ xs, rd x = rd' x) → rdAll rd xs = rdAll rd' xs
  | [], _ => rfl
  | x :: xs, h => by simp only [rdAll]; rw [h x (List.mem_cons_self ..), rdAll_congr fun y hy => h y (List.mem_cons_of_mem _ hy)]
theorem rdParts_congr {rd rd' : Operand → Option V} : ∀ {xs : List (Nat × Operand)}, (∀ x ∈ xs, rd x.2 = rd' x.2) → rdParts rd xs = rdParts rd' xs
  | [], _ => rfl
  | (i, x) :: xs, h => by simp only [rdParts]; rw [h (i, x) (List.mem_cons_self ..), rdParts_congr fun y hy => h y (List.mem_cons_of_mem _ hy)]
theorem rtAll_congr {gi : Nat} {rd rd' rt rt' : Operand → Option V} : ∀ {xs : List Operand} {i : Nat}, (∀ x ∈ xs, rd x = rd' x) → (∀ x ∈ xs, (∀ t, x = .tmp t → t ∈ takesArgs A gi i xs) → rt x = rt' x) →
    rtAll gi A rd rt i xs = rtAll gi A rd' rt' i xs
  | [], i, _, _ => rfl
  | x :: xs, i, h1, h2 => by
    simp only [rtAll]
    rw [rtAll_congr (xs := xs) (i := i + 1) (fun y hy => h1 y (List.mem_cons_of_mem _ hy)) (fun y hy ht => h2 y (List.mem_cons_of_mem _ hy) fun t e => by simp only [takesArgs]; exact List.mem_append_right _ (ht t e)), h1 x (List.mem_cons_self ..)]
    by_cases hta : A.ta gi i = true
    · rw [if_pos hta, if_pos hta, h2 x (List.mem_cons_self ..) fun t e => by subst e; simp only [takesArgs, hta, if_true, opTmps]; simp]
    · rw [if_neg hta, if_neg hta]
theorem sliceV_congr {rd rd' : Operand → Option V} {x : V} {lo hi mx : Option Operand} (h1 : ∀ y, lo = some y → rd y = rd' y) (h2 : ∀ y, hi = some y → rd y = rd' y) (h3 : ∀ y, mx = some y → rd y = rd' y) : sliceV rd x lo hi mx = sliceV rd' x lo hi mx := by
  unfold sliceV
  cases mx with
  | none => simp only [bnd_congr h1, bnd_congr h2]
  | some q => simp only [bnd_congr h1, bnd_congr h2, h3 q rfl]
theorem pureOp_congr {o : Oper} {rd rd' : Operand → Option V} (h : ∀ x ∈ o.op.operands.toList, rd x = rd' x) : pureOp P rd o = pureOp P rd' o := by
  unfold pureOp
  cases ho : o.op <;> simp only [ho, Op.operands] at h ⊢
  case move x => exact h x (by simp)
  case assign x => exact h x (by simp)
  case pick c a b => rw [h c (by simp), h a (by simp), h b (by simp)]
  case build t ps => rw [rdParts_congr (rd' := rd') fun x hx => h x.2 (by simp; exact ⟨x.1, by simpa using hx⟩)]
  case buildSlice t n ps => rw [rdParts_congr (rd' := rd') fun x hx => h x.2 (by simp; exact ⟨x.1, by simpa using hx⟩)]
  case binOp op t x y t' => rw [h x (by simp), h y (by simp)]
  case lookup t x i ok => rw [h x (by simp), h i (by simp)]
  case unOp op t x => rw [h x (by simp)]
  case convert s t x => rw [h x (by simp)]
  case makeFunc fn fi ca => rw [rdAll_congr (rd' := rd') fun x hx => h x (by simp; exact .inr (by simpa using hx))]
  case slice t x lo hi mx =>
    rw [h x (by simp)]
    have : ∀ v, sliceV rd v lo hi mx = sliceV rd' v lo hi mx := fun v => sliceV_congr (fun y e => h y (by subst e; simp)) (fun y e => h y (by subst e; simp)) (fun y e => h y (by subst e; simp))
    simp only [this]
  case fieldAddr t x i => rw [h x (by simp)]
  case field t x i => rw [h x (by simp)]
  case indexAddr t x i => rw [h x (by simp), h i (by simp)]
  case index t x i => rw [h x (by simp), h i (by simp)]
  case extract x i => rw [h x (by simp)]
  case nilCheck x => rw [h x (by simp)]
  case load t x => rw [h x (by simp)]
  case call c => rw [rdAll_congr (rd' := rd') fun x hx => h x (by unfold Call.operands; simp; exact .inr (by simpa using hx))]
theorem core_congr {strict : Bool} {o : Oper} {rd rd' rt rt' : Operand → Option V} {m : Mem} (h : ∀ x ∈ o.op.operands.toList, rd x = rd' x) (ht : ∀ x ∈ o.op.operands.toList, (∀ t, x = .tmp t → t ∈ takes A f o) → rt x = rt' x) :
    core P A cl ro f true strict o rd rt m = core P A cl ro f true strict o rd' rt' m := by
  have hpure := pureOp_congr (P := P) h
  unfold core
  cases ho : o.op <;> simp only [ho, Op.operands, takes] at h ht ⊢
  case assign x => rw [ht x (by simp) fun t e => by subst e; simp [opTmps]]
  case move x =>
    cases hd : o.dst with
    | none => rfl
    | some d =>
      simp only [hd] at ht ⊢
      by_cases hk : A.tk f d = true
      · rw [if_pos hk, if_pos hk, ht x (by simp) fun t e => by subst e; rw [if_pos hk]; simp [opTmps]]
      · rw [if_neg hk, if_neg hk, h x (by simp)]
  case load t x => rw [h x (by simp), hpure]
  case store t y x => rw [h y (by simp), ht x (by simp) fun t e => by subst e; simp [opTmps]]
  case box t x => simp
  case call c =>
    have hargs : ∀ x ∈ c.args.toList, rd x = rd' x := fun x hx => h x (by unfold Call.operands; simp; exact .inr (by simpa using hx))
    have hargt : ∀ x ∈ c.args.toList, (∀ t, x = .tmp t → t ∈ takes A f o) → rt x = rt' x := fun x hx ht' => ht x (by unfold Call.operands; simp; exact .inr (by simpa using hx)) (by simpa only [takes, ho] using ht')
    cases hc : c.callee with
    | builtin b =>
      by_cases hb : b = .append
      · subst hb
        simp only
        have : appendV P rd rt c.args.toList c.argTypes.toList = appendV P rd' rt' c.args.toList c.argTypes.toList := by
          have key : ∀ (l : List Operand) (l2 : List TypeId), (∀ x ∈ l, rd x = rd' x) → (∀ x r, l = x :: r → rt x = rt' x) → appendV P rd rt l l2 = appendV P rd' rt' l l2 := by
            intro l l2 k1 k2
            unfold appendV
            split
            · rename_i s x t t'
              rw [k1 x (by simp), k2 s _ rfl]
            · rfl
          refine key _ _ hargs fun x r hl => hargt x (by rw [hl]; simp) fun t e => by subst e; simp [takes, ho, hc, hl, opTmps]
        rw [this]
      · cases b <;> first | exact absurd rfl hb | (simp only; rw [hpure])
    | invoke r n => rfl
    | value x =>
      have hx : rd x = rd' x := h x (by unfold Call.operands; rw [hc]; simp)
      cases x with
      | func gi =>
        simp only
        rw [rtAll_congr (A := A) (gi := gi) (rd' := rd') (rt' := rt') hargs fun x hx ht' => hargt x hx (by simpa only [takes, ho, hc] using ht')]
      | _ => simp only; rw [hx, rdAll_congr hargs]
  all_goals rw [hpure]
/-- an operation that leaves the boxes alone does so whatever they are -/
theorem core_still {strict : Bool} {o : Oper} {rd rt : Operand → Option V} {m m2 m' : Mem} {v : V} (hs : still o = true) (hm : m2.length = m.length) (h : core P A cl ro f true strict o rd rt m = some (v, m')) : m' = m ∧ core P A cl ro f true strict o rd rt m2 = some (v, m2) := by
  have pure_case : ∀ {q : Option V}, (q.map fun v => (v, m)) = some (v, m') → m' = m ∧ (q.map fun v => (v, m2)) = some (v, m2) := fun {q} e => by
    obtain ⟨v', hv, e⟩ := Option.map_eq_some_iff.1 e
    cases e; exact ⟨rfl, by rw [hv]; rfl⟩
  unfold core at h ⊢
  cases ho : o.op <;> simp only [ho, still] at hs h ⊢ <;> try (first | (cases hs; done) | exact pure_case h)
  case move x =>
    cases hd : o.dst with
    | none => rw [hd] at h; cases h
    | some d => rw [hd] at h; simp only at h ⊢; exact pure_case h
  case alloc t =>
    cases hd : o.dst with
    | none => rw [hd] at h; cases h
    | some d =>
      rw [hd] at h
      cases m with
      | nil => cases h
      | cons fr r =>
        cases m2 with
        | nil => simp at hm
        | cons fr2 r2 =>
          simp only [if_true] at h ⊢
          cases h
          have : r2.length = r.length := by simpa using hm
          exact ⟨rfl, by rw [this]⟩
  case call c =>
    cases hc : c.callee with
    | builtin b =>
      rw [hc] at h
      by_cases hb : b = .append
      · subst hb
        simp only at h ⊢
        exact pure_case h
      · cases b <;> first | exact absurd rfl hb | (simp only at h ⊢; exact pure_case h)
    | _ => rw [hc] at hs; cases hs
/-- an operation that may not write does not -/
theorem core_quiet {o : Oper} {rd rt : Operand → Option V} {m m' : Mem} {v : V} (h : core P A cl ro f true true o rd rt m = some (v, m')) : m' = m := by
  have pure_case : ∀ {q : Option V}, (q.map fun v => (v, m)) = some (v, m') → m' = m := fun {q} e => by
    obtain ⟨v', hv, e⟩ := Option.map_eq_some_iff.1 e
    cases e; rfl
  have call_case : ∀ {g vs}, callQ cl ro true g vs m = some (v, m') → m' = m := fun {g vs} e => by
    unfold callQ at e
    simp only [if_true] at e
    split at e
    · cases e; rfl
    · cases e
  unfold core at h
  cases ho : o.op <;> simp only [ho] at h <;> try (first | exact pure_case h | (cases h; done))
  case move x => split at h; exact pure_case h; cases h
  case load t x =>
    repeat' split at h
    all_goals first | (simp at *; done) | exact pure_case h | (cases h; done) | skip
  case alloc t => repeat' split at h
                  all_goals first | (cases h; rfl) | (cases h; done) | (simp at *; done)
  case call c =>
    repeat' split at h
    all_goals first | exact call_case h | exact pure_case h | (cases h; rfl) | (cases h; done)
end Go.Eng
/- Two operations that are apart may change places. -/
set_option linter.unusedVariables false
set_option linter.unusedSimpArgs false
namespace Go.Eng
open Go.RowKit
variable {P : Program} {A : Ann} {cl : CallF} {ro f : Nat} {ops : Array Oper}
theorem core_len (hcl : CallOK P A cl) {draw strict : Bool} {o : Oper} {rd rt : Operand → Option V} {m m' : Mem} {v : V} (h : core P A cl ro f draw strict o rd rt m = some (v, m')) : m'.length = m.length := by
  have pure_case : ∀ {q : Option V}, (q.map fun v => (v, m)) = some (v, m') → m'.length = m.length := fun {q} e => by
    obtain ⟨v', hv, e⟩ := Option.map_eq_some_iff.1 e
    cases e; rfl
  have call_case : ∀ {g vs}, callQ cl ro strict g vs m = some (v, m') → m'.length = m.length := fun {g vs} e => by
    unfold callQ at e
    split at e
    · split at e
      · cases e; rfl
      · cases e
    · exact hcl.len _ _ _ _ _ _ e
  unfold core at h
  cases ho : o.op <;> simp only [ho] at h <;> try (first | exact pure_case h | (cases h; done))
  case move x => split at h; exact pure_case h; cases h
  case load t x =>
    repeat' split at h
    all_goals first | exact pure_case h | (cases h; done) | (cases h; exact put_length ..)
  case store t y x =>
    repeat' split at h
    all_goals first | (cases h; done) | (cases h; exact put_length ..)
  case alloc t =>
    repeat' split at h
    all_goals first | (cases h; done) | (cases h; rfl)
  case box t x =>
    repeat' split at h
    all_goals first | (cases h; done) | (cases h; rfl)
  case call c =>
    repeat' split at h
    all_goals first | exact call_case h | exact pure_case h | (cases h; done)
theorem opTmps_mem {x : Operand} {t : Tmp} (h : t ∈ opTmps [x]) : x = .tmp t := by
  cases x <;> simp [opTmps] at h; rw [h]
theorem takesArgs_mem {gi : Nat} {t : Tmp} : ∀ {xs : List Operand} {i : Nat}, t ∈ takesArgs A gi i xs → Operand.tmp t ∈ xs
  | [], i, h => by simp [takesArgs] at h
  | x :: xs, i, h => by
    simp only [takesArgs, List.mem_append] at h
    rcases h with h | h
    · split at h
      · rw [← opTmps_mem h]; exact List.mem_cons_self ..
      · cases h
    · exact List.mem_cons_of_mem _ (takesArgs_mem h)
theorem takes_mem {o : Oper} {t : Tmp} (h : t ∈ takes A f o) : Operand.tmp t ∈ o.op.operands.toList := by
  unfold takes at h
  split at h
  · rename_i x ho; rw [ho, ← opTmps_mem h]; simp [Op.operands]
  · rename_i x ho
    rw [ho]
    split at h
    · split at h
      · rw [← opTmps_mem h]; simp [Op.operands]
      · cases h
    · cases h
  · rename_i x ho; rw [ho, ← opTmps_mem h]; simp [Op.operands]
  · rename_i c ho
    rw [ho]
    simp only [Op.operands, Call.operands]
    split at h
    · split at h
      · rename_i x r hl
        rw [← opTmps_mem h]
        simp
        right
        have : x ∈ c.args.toList := by rw [hl]; simp
        simpa using this
      · cases h
    · have := takesArgs_mem h
      simp
      right
      simpa using this
    · cases h
  · cases h
theorem looks_of {o : Oper} {t : Tmp} (h : Operand.tmp t ∈ o.op.operands.toList) : t ∈ o.looksAt ops := by
  unfold Oper.looksAt
  refine List.mem_append_left _ (List.mem_filterMap.2 ⟨.tmp t, h, rfl⟩)
theorem rawT_mod (tm : List V) (ts : List Tmp) (dst : Option Tmp) (v : V) (s : Nat) (hd : dst ≠ some s) : rawT (putT (stripT tm ts) dst v) s = if s ∈ ts then (rawT tm s).strip else rawT tm s := by
  unfold rawT
  rw [List.getD_eq_getElem?_getD, putT_get, if_neg hd, stripT_get, List.getD_eq_getElem?_getD]
  split
  · cases tm[s]? <;> rfl
  · rfl
theorem rd_mod (tm : List V) (ts : List Tmp) (dst : Option Tmp) (v : V) {x : Operand} (hd : ∀ t, x = .tmp t → dst ≠ some t) : rdOf A (putT (stripT tm ts) dst v) x = rdOf A tm x := by
  cases x with
  | tmp s =>
    simp only [rdOf, raw]
    rw [rawT_mod tm ts dst v s (hd s rfl)]
    by_cases hm : s ∈ ts
    · rw [if_pos hm]; cases rawT tm s <;> rfl
    · rw [if_neg hm]
  | _ => rfl
theorem raw_mod (tm : List V) (ts : List Tmp) (dst : Option Tmp) (v : V) {x : Operand} (hd : ∀ t, x = .tmp t → dst ≠ some t) (ht : ∀ t, x = .tmp t → t ∉ ts) : raw A (putT (stripT tm ts) dst v) x = raw A tm x := by
  cases x with
  | tmp s =>
    simp only [raw]
    rw [rawT_mod tm ts dst v s (hd s rfl), if_neg (ht s rfl)]
  | _ => rfl
theorem want_mod (tm : List V) (ts : List Tmp) (dst : Option Tmp) (v : V) {o : Oper} (hd : ∀ t, dst = some t → t ∉ o.looksAt ops) : wantA ops o (putT (stripT tm ts) dst v) = wantA ops o tm := by
  unfold wantA
  cases hg : o.guard with
  | none => rfl
  | some q =>
    obtain ⟨j, want⟩ := q
    simp only
    cases hj : (ops[j]?).bind (·.dst) with
    | none => rfl
    | some d =>
      simp only
      have : dst ≠ some d := fun e => hd d e (by
        unfold Oper.looksAt
        rw [hg]
        refine List.mem_append_right _ ?_
        simp only [hj]
        simp)
      rw [rawT_mod tm ts dst v d this]
      by_cases hm : d ∈ ts
      · rw [if_pos hm]
        cases hr : rawT tm d with
        | c x => rfl
        | tup l => rfl
        | _ => rfl
      · rw [if_neg hm]
theorem putT_strip_comm (tm : List V) (t1 t2 : List Tmp) (d1 d2 : Option Tmp) (v1 v2 : V) (h1 : ∀ t, d1 = some t → t ∉ t2) (h2 : ∀ t, d2 = some t → t ∉ t1) (h3 : ∀ t, d1 = some t → d2 ≠ some t) :
    putT (stripT (putT (stripT tm t1) d1 v1) t2) d2 v2 = putT (stripT (putT (stripT tm t2) d2 v2) t1) d1 v1 := by
  apply List.ext_getElem?
  intro s
  simp only [putT_get, stripT_get]
  by_cases e1 : d1 = some s
  · have := h1 s e1
    have e2 := h3 s e1
    rw [if_pos e1, if_neg e2, if_neg e2, if_neg this, if_pos e1]
    split <;> cases tm[s]? <;> rfl
  · by_cases e2 : d2 = some s
    · have := h2 s e2
      rw [if_neg e1, if_neg e1, if_pos e2, if_neg this, if_pos e2]
      split <;> cases tm[s]? <;> rfl
    · rw [if_neg e1, if_neg e1, if_neg e2, if_neg e2]
      split <;> split <;> cases tm[s]? <;> simp [strip_strip]
/-- what a step does -/
def Eff (P : Program) (A : Ann) (cl : CallF) (ro f : Nat) (ops : Array Oper) (o : Oper) (tm : List V) (m : Mem) (v : V) (ts : List Tmp) (m' : Mem) : Prop :=
  (wantA ops o tm = some true ∧ chkO A f o (rdOf A tm) m.length = true ∧ core P A cl ro f true (!loud A f o) o (rdOf A tm) (raw A tm) m = some (v, m') ∧ ts = takes A f o) ∨ (wantA ops o tm = some false ∧ v = .tup [] ∧ ts = [] ∧ m' = m)
theorem step_eff {o : Oper} {st st' : St} : step P A cl ro f true ops o st = some st' ↔ ∃ v ts m', Eff P A cl ro f ops o st.tm st.m v ts m' ∧ st' = ⟨putT (stripT st.tm ts) o.dst v, m'⟩ := by
  have hl : (true && !loud A f o) = !loud A f o := Bool.true_and _
  unfold step Eff
  rw [hl, Bool.true_and]
  constructor
  · intro h
    split at h
    · rename_i hw
      split at h
      · cases h
      rename_i hk
      split at h
      · rename_i v m' hc
        cases h
        exact ⟨v, _, m', .inl ⟨hw, by simpa using hk, hc, rfl⟩, rfl⟩
      · cases h
    · rename_i hw
      cases h
      exact ⟨_, [], _, .inr ⟨hw, rfl, rfl, rfl⟩, rfl⟩
    · cases h
  · rintro ⟨v, ts, m', h, rfl⟩
    rcases h with ⟨hw, hk, hc, rfl⟩ | ⟨hw, rfl, rfl, rfl⟩
    · rw [hw]; simp only; rw [hk, if_neg (by simp), hc]
    · rw [hw]; rfl
theorem Eff.ts {o : Oper} {tm : List V} {m m' : Mem} {v : V} {ts : List Tmp} (h : Eff P A cl ro f ops o tm m v ts m') : ∀ t ∈ ts, t ∈ takes A f o := by
  rcases h with ⟨_, _, _, rfl⟩ | ⟨_, _, rfl, _⟩
  · exact fun t h => h
  · intro t h; cases h
theorem Eff.len (hcl : CallOK P A cl) {o : Oper} {tm : List V} {m m' : Mem} {v : V} {ts : List Tmp} (h : Eff P A cl ro f ops o tm m v ts m') : m'.length = m.length := by
  rcases h with ⟨_, _, hc, _⟩ | ⟨_, _, _, rfl⟩
  · exact core_len hcl hc
  · rfl
theorem Eff.mod {o : Oper} {tm : List V} {m m' : Mem} {v : V} {ts : List Tmp} {t2 : List Tmp} {d2 : Option Tmp} {v2 : V} (hd : ∀ t, d2 = some t → t ∉ o.looksAt ops) (ht : ∀ t ∈ t2, t ∉ takes A f o) :
    Eff P A cl ro f ops o (putT (stripT tm t2) d2 v2) m v ts m' ↔ Eff P A cl ro f ops o tm m v ts m' := by
  unfold Eff
  rw [want_mod _ _ _ _ hd]
  have : core P A cl ro f true (!loud A f o) o (rdOf A (putT (stripT tm t2) d2 v2)) (raw A (putT (stripT tm t2) d2 v2)) m = core P A cl ro f true (!loud A f o) o (rdOf A tm) (raw A tm) m := by
    refine core_congr (fun x hx => rd_mod _ _ _ _ fun t e he => hd t he (looks_of (e ▸ hx))) fun x hx hxt => raw_mod _ _ _ _ (fun t e he => hd t he (looks_of (e ▸ hx))) fun t e hm => ht t hm (hxt t e)
  have hck : chkO A f o (rdOf A (putT (stripT tm t2) d2 v2)) m.length = chkO A f o (rdOf A tm) m.length := by
    have hrd : ∀ t, Operand.tmp t ∈ o.op.operands.toList → rdOf A (putT (stripT tm t2) d2 v2) (.tmp t) = rdOf A tm (.tmp t) := fun t ht =>
      rd_mod (A := A) tm t2 d2 v2 (x := .tmp t) fun t' e he => hd t' he (looks_of (e ▸ ht))
    unfold chkO
    cases ho : o.op with
    | load ty x =>
      cases x with
      | tmp t => simp only; rw [hrd t (by rw [ho]; simp [Op.operands])]
      | _ => rfl
    | store ty x y =>
      cases x with
      | tmp t => simp only; rw [hrd t (by rw [ho]; simp [Op.operands])]
      | _ => rfl
    | _ => rfl
  rw [this, hck]
theorem Eff.still {o : Oper} {tm : List V} {m m2 m' : Mem} {v : V} {ts : List Tmp} (hs : still o = true) (hm : m2.length = m.length) (h : Eff P A cl ro f ops o tm m v ts m') : m' = m ∧ Eff P A cl ro f ops o tm m2 v ts m2 := by
  rcases h with ⟨h1, hk, hc, h3⟩ | ⟨h1, h2, h3, rfl⟩
  · obtain ⟨k1, k2⟩ := core_still hs hm hc
    exact ⟨k1, .inl ⟨h1, by rw [hm]; exact hk, k2, h3⟩⟩
  · exact ⟨rfl, .inr ⟨h1, h2, h3, rfl⟩⟩
theorem Eff.quiet {o : Oper} {tm : List V} {m m' : Mem} {v : V} {ts : List Tmp} (hs : loud A f o = false) (h : Eff P A cl ro f ops o tm m v ts m') : m' = m := by
  rcases h with ⟨h1, hk, hc, h3⟩ | ⟨h1, h2, h3, rfl⟩
  · rw [hs] at hc; exact core_quiet hc
  · rfl
/-- a load reads one box alone -/
theorem core_load_at {t : TypeId} {x : Operand} {o : Oper} (ho : o.op = .load t x) (hnl : loudL A f o = false) {strict : Bool} {rd rt : Operand → Option V} {m m2 m' : Mem} {v : V} (hl : ∀ d b off, rd x = some (.p d b off) → look m2 d b = look m d b)
    (h : core P A cl ro f true strict o rd rt m = some (v, m')) : m' = m ∧ core P A cl ro f true strict o rd rt m2 = some (v, m2) := by
  unfold core at h ⊢
  simp only [ho, Bool.not_true, Bool.and_false, Bool.false_eq_true, if_false] at h ⊢
  cases hx : rd x with
  | none => rw [hx] at h; simp only at h ⊢; obtain ⟨v', hv, e⟩ := Option.map_eq_some_iff.1 h; cases e; exact ⟨rfl, by rw [hv]; rfl⟩
  | some y =>
    rw [hx] at h
    cases y with
    | p d b off =>
      simp only at h ⊢
      rw [hl d b off hx]
      cases hk : look m d b with
      | none => rw [hk] at h; cases h
      | some cs =>
        rw [hk] at h
        cases hi : tyOf P t with
        | none => rw [hi] at h; cases h
        | some i =>
          rw [hi] at h
          simp only at h ⊢
          by_cases hc : off + i.size ≤ cs.length
          · rw [if_pos hc] at h ⊢
            cases hd : o.dst with
            | none => rw [hd] at h; cases h
            | some dst =>
              have htk : A.tk f dst = false := by simpa only [loudL, hd] using hnl
              rw [hd] at h
              simp only [htk, Bool.false_and, Bool.false_eq_true, if_false] at h ⊢
              obtain ⟨v', hv, e⟩ := Option.map_eq_some_iff.1 h
              cases e
              exact ⟨rfl, by rw [hv]; rfl⟩
          · rw [if_neg hc] at h; cases h
    | _ =>
      simp only at h ⊢
      obtain ⟨v', hv, e⟩ := Option.map_eq_some_iff.1 h
      cases e
      exact ⟨rfl, by rw [hv]; rfl⟩
theorem core_store_at {t : TypeId} {y x : Operand} {o : Oper} (ho : o.op = .store t y x) {strict : Bool} {rd rt : Operand → Option V} {m m' : Mem} {v : V} (h : core P A cl ro f true strict o rd rt m = some (v, m')) :
    ∃ d b off l, rd y = some (.p d b off) ∧ m' = put m d b l ∧ d < m.length := by
  unfold core at h
  simp only [ho] at h
  split at h
  · cases h
  · split at h
    · rename_i d b off v' i h1 h2 h3
      split at h
      · rename_i cs h4
        split at h
        · cases h
          exact ⟨d, b, off, _, h1, rfl, look_lt h4⟩
        · cases h
      · cases h
    · cases h
theorem sep_look {t : TypeId} {y x : Operand} {t2 : TypeId} {z : Operand} {os ol : Oper} (hs : os.op = .store t y x) (hl : ol.op = .load t2 z) (hsep : sepB A f os ol = true ∨ sepB A f ol os = true) {rd rd2 : Operand → Option V} {m : Mem}
    (c1 : chkO A f os rd m.length = true) (c2 : chkO A f ol rd2 m.length = true) {d b off : Nat} {l : Box} (hy : rd y = some (.p d b off)) (hd : d < m.length) :
    ∀ d' b' off', rd2 z = some (.p d' b' off') → look (put m d b l) d' b' = look m d' b' := by
  intro d' b' off' hz
  have hsep' : ∃ s q r, y = .tmp s ∧ z = .tmp q ∧ A.own f s = some r ∧ (A.away f q).contains r = true := by
    rcases hsep with h | h <;> (unfold sepB at h; rw [hs, hl] at h; cases y <;> cases z <;> simp only at h <;> try (cases h; done))
    all_goals
      split at h
      · rename_i r hr; exact ⟨_, _, r, rfl, rfl, hr, (Bool.and_eq_true _ _ ▸ h).1⟩
      · cases h
  obtain ⟨s, q, r, rfl, rfl, k1, k2⟩ := hsep'
  unfold chkO at c1 c2
  rw [hs] at c1
  rw [hl] at c2
  simp only [k1, hy, hz] at c1 c2
  rw [look_put _ _ _ _ _ _ hd]
  split
  · rename_i e
    obtain ⟨rfl, rfl⟩ := e
    simp only [Bool.and_eq_true, beq_iff_eq] at c1
    obtain ⟨c3, rfl⟩ := c1
    rw [k2] at c2
    simp [c3] at c2
  · rfl
theorem sep_load {ol os : Oper} {t : TypeId} {y x : Operand} {t2 : TypeId} {z : Operand} (hs : os.op = .store t y x) (hl : ol.op = .load t2 z) (hsep : sepB A f os ol = true ∨ sepB A f ol os = true) : loudL A f ol = false := by
  rcases hsep with h | h <;> (unfold sepB at h; rw [hs, hl] at h; cases y <;> cases z <;> simp only at h <;> try (cases h; done))
  all_goals
    split at h
    · simp only [Bool.and_eq_true, Bool.not_eq_true'] at h; exact h.2
    · cases h
/-- the same boxes, but that one cell may have lost its right to append -/
def Less (m m2 : Mem) : Prop := ∀ d b, (look m2 d b).map (fun cs : Box => cs.map V.strip) = (look m d b).map (fun cs : Box => cs.map V.strip)
theorem Less.symm {m m2 : Mem} (h : Less m m2) : Less m2 m := fun d b => (h d b).symm
theorem less_put {m : Mem} {d b off : Nat} {cs : Box} {x : V} (hl : look m d b = some cs) (hx : cs[off]? = some x) : Less m (put m d b (cs.set off x.strip)) := by
  intro d' b'
  rw [look_put _ _ _ _ _ _ (look_lt hl)]
  split
  · rename_i e
    obtain ⟨rfl, rfl⟩ := e
    rw [hl]
    simp only [Option.map_some, Option.some.injEq]
    apply List.ext_getElem?
    intro s
    rw [List.getElem?_map, List.getElem?_map, List.getElem?_set]
    split
    · rename_i e
      subst e
      rw [hx]
      have : off < cs.length := (List.getElem?_eq_some_iff.1 hx).1
      rw [if_pos this]
      simp [strip_strip]
    · rfl
  · rfl
theorem core_load_less {t : TypeId} {x : Operand} {o : Oper} (ho : o.op = .load t x) (hnl : loudL A f o = false) {strict : Bool} {rd rt : Operand → Option V} {m m2 m' : Mem} {v : V} (hl : Less m m2)
    (h : core P A cl ro f true strict o rd rt m = some (v, m')) : m' = m ∧ core P A cl ro f true strict o rd rt m2 = some (v, m2) := by
  unfold core at h ⊢
  simp only [ho] at h ⊢
  cases hx : rd x with
  | none => rw [hx] at h; simp only at h ⊢; obtain ⟨v', hv, e⟩ := Option.map_eq_some_iff.1 h; cases e; exact ⟨rfl, by rw [hv]; rfl⟩
  | some y =>
    rw [hx] at h
    cases y with
    | p d b off =>
      simp only at h ⊢
      have hlk := hl d b
      cases hk : look m d b with
      | none => rw [hk] at h; cases h
      | some cs =>
        rw [hk] at h hlk
        cases hk2 : look m2 d b with
        | none => rw [hk2] at hlk; cases hlk
        | some cs2 =>
          rw [hk2] at hlk
          simp only [Option.map_some, Option.some.injEq] at hlk
          have hlen : cs2.length = cs.length := by have := congrArg List.length hlk; simpa using this
          cases hi : tyOf P t with
          | none => rw [hi] at h; cases h
          | some i =>
            rw [hi] at h
            simp only [hlen] at h ⊢
            by_cases hc : off + i.size ≤ cs.length
            · rw [if_pos hc] at h ⊢
              cases hd : o.dst with
              | none => rw [hd] at h; cases h
              | some dst =>
                have htk : A.tk f dst = false := by simpa only [loudL, hd] using hnl
                rw [hd] at h
                simp only [htk, Bool.false_and, Bool.false_eq_true, if_false] at h ⊢
                obtain ⟨v', hv, e⟩ := Option.map_eq_some_iff.1 h
                cases e
                have : ((cs2.drop off).take i.size).map V.strip = ((cs.drop off).take i.size).map V.strip := by
                  rw [List.map_take, List.map_drop, List.map_take, List.map_drop, hlk]
                exact ⟨rfl, by rw [this, hv]; rfl⟩
            · rw [if_neg hc] at h; cases h
    | _ =>
      simp only at h ⊢
      obtain ⟨v', hv, e⟩ := Option.map_eq_some_iff.1 h
      cases e
      exact ⟨rfl, by rw [hv]; rfl⟩
/-- a load, whatever it takes, leaves the boxes as they were but for the right that it takes -/
theorem core_load_gives {t : TypeId} {x : Operand} {o : Oper} (ho : o.op = .load t x) {strict : Bool} {rd rt : Operand → Option V} {m m' : Mem} {v : V}
    (h : core P A cl ro f true strict o rd rt m = some (v, m')) : Less m m' := by
  unfold core at h
  simp only [ho] at h
  have pure_case : ∀ {q : Option V}, (q.map fun v => (v, m)) = some (v, m') → Less m m' := fun {q} e => by
    obtain ⟨v', hv, e⟩ := Option.map_eq_some_iff.1 e
    cases e; exact fun _ _ => rfl
  split at h
  · split at h
    · rename_i cs i hl hi
      split at h
      · split at h
        · split at h
          · split at h
            · cases h
            split at h
            · rename_i x' hx'
              split at h
              · cases h; exact less_put hl hx'
              · cases h
            · cases h
          · exact pure_case h
        · cases h
      · cases h
    · cases h
  · exact pure_case h
theorem step_comm (hcl : CallOK P A cl) {oi oj : Oper} (hap : oi.apart ops oj = true) (htk : ∀ t ∈ takes A f oi, t ∉ takes A f oj) (hcls : (loud A f oi = false ∧ loud A f oj = false) ∨ still oi = true ∨ still oj = true ∨ sepB A f oi oj = true ∨ ldB A f oi oj = true)
    {st s1 s2 : St} (h1 : step P A cl ro f true ops oi st = some s1) (h2 : step P A cl ro f true ops oj s1 = some s2) : ∃ s1', step P A cl ro f true ops oj st = some s1' ∧ step P A cl ro f true ops oi s1' = some s2 := by
  obtain ⟨a1, a2, a3⟩ := Oper.apart_spec hap
  obtain ⟨vi, ti, mi, ei, rfl⟩ := step_eff.1 h1
  obtain ⟨vj, tj, mj, ej, rfl⟩ := step_eff.1 h2
  simp only at ej
  have ej0 := (Eff.mod a1 (fun t ht hm => htk t (ei.ts t ht) hm)).1 ej
  have hli := ei.len hcl
  have hlj := ej.len hcl
  have key : ∃ mj', Eff P A cl ro f ops oj st.tm st.m vj tj mj' ∧ Eff P A cl ro f ops oi st.tm mj' vi ti mj := by
    rcases hcls with ⟨q1, q2⟩ | q | q | q | q
    · have e1 := ei.quiet q1
      have e2 := ej0.quiet q2
      subst e1; subst e2
      exact ⟨_, ej0, ei⟩
    · obtain ⟨e1, e2⟩ := ei.still (m2 := mj) q (by rw [hlj, hli])
      subst e1
      exact ⟨mj, ej0, e2⟩
    · obtain ⟨e1, e2⟩ := ej0.still (m2 := st.m) q hli.symm
      subst e1
      exact ⟨_, e2, ei⟩
    · have hq := q
      rcases ei with ⟨i1, i2, i3, i4⟩ | ⟨i1, i2, i3, rfl⟩
      · rcases ej0 with ⟨j1, j2, j3, j4⟩ | ⟨j1, j2, j3, rfl⟩
        · unfold sepB at q
          split at q
          · -- a load, then a store
            rename_i t2 z t y x e1 e2
            have hnl := sep_load e2 e1 (.inr hq)
            obtain ⟨rfl, _⟩ := core_load_at e1 hnl (m2 := st.m) (fun _ _ _ _ => rfl) i3
            obtain ⟨d, b, off, l, hy, rfl, hd⟩ := core_store_at e2 j3
            obtain ⟨_, k⟩ := core_load_at e1 hnl (m2 := put _ d b l) (sep_look e2 e1 (.inr hq) j2 i2 hy hd) i3
            exact ⟨_, .inl ⟨j1, j2, j3, j4⟩, .inl ⟨i1, by rw [put_length]; exact i2, k, i4⟩⟩
          · rename_i t y x t2 z e1 e2
            obtain ⟨d, b, off, l, hy, rfl, hd⟩ := core_store_at e1 i3
            rw [put_length] at j2
            have hlk := sep_look e1 e2 (.inl hq) i2 j2 hy hd (l := l)
            obtain ⟨rfl, k⟩ := core_load_at e2 (sep_load e1 e2 (.inl hq)) (m2 := st.m) (fun d' b' off' h => (hlk d' b' off' h).symm) j3
            exact ⟨_, .inl ⟨j1, j2, k, j4⟩, .inl ⟨i1, i2, i3, i4⟩⟩
          · cases q
        · exact ⟨_, .inr ⟨j1, j2, j3, rfl⟩, .inl ⟨i1, i2, i3, i4⟩⟩
      · rcases ej0 with ⟨j1, j2, j3, j4⟩ | ⟨j1, j2, j3, rfl⟩
        · exact ⟨_, .inl ⟨j1, j2, j3, j4⟩, .inr ⟨i1, i2, i3, rfl⟩⟩
        · exact ⟨_, .inr ⟨j1, j2, j3, rfl⟩, .inr ⟨i1, i2, i3, rfl⟩⟩
    · unfold ldB at q
      split at q
      · rename_i t1 x1 t2 x2 e1 e2
        have hli2 : loud A f oi = loudL A f oi := by simp only [loud, loudL, e1]
        have hlj2 : loud A f oj = loudL A f oj := by simp only [loud, loudL, e2]
        rcases ei with ⟨i1, i2, i3, i4⟩ | ⟨i1, i2, i3, rfl⟩
        · rcases ej0 with ⟨j1, j2, j3, j4⟩ | ⟨j1, j2, j3, rfl⟩
          · simp only [Bool.or_eq_true, Bool.not_eq_true'] at q
            rcases q with q | q
            · -- the first takes nothing
              obtain ⟨rfl, _⟩ := core_load_less e1 (hli2 ▸ q) (m2 := st.m) (fun _ _ => rfl) i3
              obtain ⟨_, k⟩ := core_load_less e1 (hli2 ▸ q) (core_load_gives e2 j3) i3
              exact ⟨_, .inl ⟨j1, j2, j3, j4⟩, .inl ⟨i1, by rw [hlj]; exact i2, k, i4⟩⟩
            · obtain ⟨rfl, k⟩ := core_load_less e2 (hlj2 ▸ q) (core_load_gives e1 i3).symm j3
              exact ⟨_, .inl ⟨j1, by rw [hli] at j2; exact j2, k, j4⟩, .inl ⟨i1, i2, i3, i4⟩⟩
          · exact ⟨_, .inr ⟨j1, j2, j3, rfl⟩, .inl ⟨i1, i2, i3, i4⟩⟩
        · rcases ej0 with ⟨j1, j2, j3, j4⟩ | ⟨j1, j2, j3, rfl⟩
          · exact ⟨_, .inl ⟨j1, j2, j3, j4⟩, .inr ⟨i1, i2, i3, rfl⟩⟩
          · exact ⟨_, .inr ⟨j1, j2, j3, rfl⟩, .inr ⟨i1, i2, i3, rfl⟩⟩
      · cases q
  obtain ⟨mj', k1, k2⟩ := key
  refine ⟨_, step_eff.2 ⟨vj, tj, mj', k1, rfl⟩, step_eff.2 ⟨vi, ti, mj, (Eff.mod a3 (fun t ht hm => htk t hm (ej.ts t ht))).2 k2, ?_⟩⟩
  simp only
  rw [putT_strip_comm _ ti tj oi.dst oj.dst vi vj (fun t e hm => a1 t e (looks_of (takes_mem (ej.ts t hm)))) (fun t e hm => a3 t e (looks_of (takes_mem (ei.ts t hm)))) (fun t e => a2 t e)]
end Go.Eng
/- A region that draws its order, whatever it draws. -/
set_option linter.unusedVariables false
set_option linter.unusedSimpArgs false
namespace Go.Eng
open Go.RowKit
variable {P : Program} {A : Ann} {cl : CallF} {w0 : World} {pend : Nat → Nat → Option Box} {g : G} {m m' : Mem} {w : World} {gh : Gh} {D ro f : Nat} {tm : List V} {a : Act} {ops : Array Oper}
def AnyA (P : Program) (A : Ann) (cl : CallF) (ro f : Nat) (ops : Array Oper) (R : St → Prop) : Nat → Array Bool → St → Prop
  | 0, L, st => Region.ready .any ops L = [] ∧ R st
  | k + 1, L, st => (Region.ready .any ops L = [] → R st) ∧ ∀ i ∈ Region.ready .any ops L, ∃ o st', ops[i]? = some o ∧ step P A cl ro f true ops o st = some st' ∧ AnyA P A cl ro f ops R k (L.setIfInBounds i true) st'
def disj (l l2 : List Nat) : Bool := l.all fun x => !l2.contains x
def pairOK (A : Ann) (f : Nat) (x y : Oper) : Bool := disj (takes A f x) (takes A f y) && ((!loud A f x && !loud A f y) || still x || still y || sepB A f x y || ldB A f x y)
/-- what a region that draws its order must be -/
def regOK (A : Ann) (f : Nat) (ops : Array Oper) : Bool :=
  Region.lexB .any ops && (ops.toList.all fun o => match o.op with | .alloc _ => o.guard.isNone | _ => true) &&
  (List.range ops.size).all fun i => (List.range ops.size).all fun j => match ops[i]?, ops[j]? with
    | some x, some y => decide (j ≤ i) || y.after.any (fun e => Region.binds .any e && e.on == i) || pairOK A f x y
    | _, _ => true
theorem any_first (hcl : CallOK P A cl) {R : St → Prop} {i : Nat} {oi : Oper} (hi : ops[i]? = some oi) :
    ∀ (fuel : Nat) (L : Array Bool) (st st1 : St),
      (∀ j oj, ops[j]? = some oj → j ≠ i → L.getD j true = false → (∀ e ∈ oj.after, Region.binds .any e = true → e.on ≠ i) → oi.apart ops oj = true ∧ pairOK A f oi oj = true) →
      i ∈ Region.ready .any ops L → step P A cl ro f true ops oi st = some st1 →
      AnyA P A cl ro f ops R fuel (L.setIfInBounds i true) st1 → AnyA P A cl ro f ops R (fuel + 1) L st := by
  intro fuel
  induction fuel with
  | zero =>
    intro L st st1 _ hr hy H
    refine ⟨fun h => (by rw [h] at hr; cases hr), fun j hj => ?_⟩
    by_cases hji : j = i
    · subst hji; exact ⟨oi, st1, hi, hy, H⟩
    · have := ready_mono hj hji
      rw [H.1] at this
      cases this
  | succ fuel ih =>
    intro L st st1 hfree hr hy H
    refine ⟨fun h => (by rw [h] at hr; cases hr), fun j hj => ?_⟩
    by_cases hji : j = i
    · subst hji; exact ⟨oi, st1, hi, hy, H⟩
    · obtain ⟨oj, s2, hoj, hs2, H2⟩ := H.2 j (ready_mono hj hji)
      obtain ⟨hjun, oj', hoj', hall⟩ := mem_ready.1 hj
      rw [hoj] at hoj'; cases hoj'
      have hnot : ∀ e ∈ oj.after, Region.binds .any e = true → e.on ≠ i := fun e he hb heq => by
        have h1 := hall e he hb
        have h0 := (mem_ready.1 hr).1
        rw [heq] at h1
        rcases Nat.lt_or_ge i L.size with h' | h'
        · simp [h'] at h0 h1; rw [h0] at h1; cases h1
        · simp [Array.getElem?_eq_none h'] at h1
      obtain ⟨q1, q2⟩ := hfree j oj hoj hji hjun hnot
      simp only [pairOK, Bool.and_eq_true, Bool.or_eq_true, Bool.not_eq_true'] at q2
      obtain ⟨q2, q3⟩ := q2
      have htk : ∀ t ∈ takes A f oi, t ∉ takes A f oj := fun t ht hm => by
        have := List.all_eq_true.1 q2 t ht
        simp at this
        exact this hm
      have hcls : (loud A f oi = false ∧ loud A f oj = false) ∨ still oi = true ∨ still oj = true ∨ sepB A f oi oj = true ∨ ldB A f oi oj = true := by
        rcases q3 with (((q3 | q3) | q3) | q3) | q3
        · exact .inl q3
        · exact .inr (.inl q3)
        · exact .inr (.inr (.inl q3))
        · exact .inr (.inr (.inr (.inl q3)))
        · exact .inr (.inr (.inr (.inr q3)))
      obtain ⟨s1', k1, k2⟩ := step_comm hcl q1 htk hcls hy hs2
      have hfree' : ∀ k ok, ops[k]? = some ok → k ≠ i → (L.setIfInBounds j true).getD k true = false →
          (∀ e ∈ ok.after, Region.binds .any e = true → e.on ≠ i) → oi.apart ops ok = true ∧ pairOK A f oi ok = true := fun k ok hk hki hun hno => by
        refine hfree k ok hk hki ?_ hno
        by_cases hjk : j = k
        · subst hjk; exact hjun
        · rw [getD_set_ne true hjk] at hun; exact hun
      refine ⟨oj, s1', hoj, k1, ih (L.setIfInBounds j true) s1' s2 hfree' (ready_mono hr (Ne.symm hji)) k2 ?_⟩
      rw [Array.setIfInBounds_comm _ _ hji]
      exact H2
theorem any_lex (hcl : CallOK P A cl) {R : St → Prop} (hok : ∀ i j x y, ops[i]? = some x → ops[j]? = some y → i < j → (∀ e ∈ y.after, Region.binds .any e = true → e.on ≠ i) → pairOK A f x y = true) :
    ∀ (l : List Oper) (k : Nat) (L : Array Bool) (st st' : St), (∀ j, j < k → L.getD j true = true) → (∀ j, l[j]? = ops[k + j]?) → Region.lexFrom .any ops l.length k L = true → steps P A cl ro f true ops l st = some st' → R st' → AnyA P A cl ro f ops R l.length L st
  | [], _, _, st, st', _, _, hB, h, hR => ⟨by simpa [Region.lexFrom] using hB, by simp only [steps] at h; cases h; exact hR⟩
  | o :: l, k, L, st, st', hLk, hl, hB, h, hR => by
    have h0 : ops[k]? = some o := by simpa using (hl 0).symm
    simp only [List.length_cons, Region.lexFrom, Bool.and_eq_true] at hB
    obtain ⟨⟨hr, hf⟩, hB'⟩ := hB
    simp only [steps] at h
    split at h
    · rename_i st1 hs1
      exact any_first hcl h0 l.length L st st1 (fun j oj hj hne hun hno => ⟨Region.free_spec h0 hf j oj hj hne hun hno, hok k j o oj h0 hj (by
          rcases Nat.lt_trichotomy j k with q | q | q
          · rw [hLk j q] at hun; cases hun
          · exact absurd q hne
          · exact q) hno⟩) (by simpa using hr) hs1
        (any_lex hcl hok l (k + 1) _ st1 st' (fun j hj => by
          by_cases e : k = j
          · subst e
            by_cases hs : k < L.size
            · simp [hs]
            · simp [hs]
          · rw [getD_set_ne true e]; exact hLk j (by omega)) (fun j => by have := hl (j + 1); simpa [Nat.add_assoc, Nat.add_comm 1 j] using this) hB' h hR)
    · cases h
theorem Inv.weaken {pend' : Nat → Nat → Option Box} (h : Inv A w0 pend g m w) (hp : ∀ d t b, pend' d t = some b → pend d t = some b) : Inv A w0 pend' g m w :=
  ⟨h.laid, h.below, h.glob, h.F, h.M, h.φ, h.inj, h.o, h.up, fun d t l hl => h.pend _ _ _ (hp _ _ _ hl)⟩
/-- what is still to be laid -/
def pendF (P : Program) : List Oper → Nat → Array Bool → Nat → Option Box
  | [], _, _, _ => none
  | o :: r, i, L, t => match o.op, o.dst with
    | .alloc ty, some d => if d = t ∧ L.getD i true = false then (tyOf P ty).map (·.zero) else pendF P r (i + 1) L t
    | _, _ => pendF P r (i + 1) L t
theorem pendF_some : ∀ {l : List Oper} {k : Nat} {L : Array Bool} {t : Nat} {b : Box}, pendF P l k L t = some b → ∃ (j : Nat) (o : Oper) (ty : TypeId), l[j]? = some o ∧ o.op = .alloc ty ∧ o.dst = some t ∧ L.getD (k + j) true = false ∧ (tyOf P ty).map (·.zero) = some b
  | [], k, L, t, b, h => by simp [pendF] at h
  | o :: r, k, L, t, b, h => by
    have rest : pendF P r (k + 1) L t = some b → ∃ (j : Nat) (o' : Oper) (ty : TypeId), (o :: r)[j]? = some o' ∧ o'.op = .alloc ty ∧ o'.dst = some t ∧ L.getD (k + j) true = false ∧ (tyOf P ty).map (·.zero) = some b := fun h => by
      obtain ⟨j, o', ty, q1, q2, q3, q4, q5⟩ := pendF_some h
      exact ⟨j + 1, o', ty, by simpa using q1, q2, q3, by rwa [show k + (j + 1) = k + 1 + j by omega], q5⟩
    simp only [pendF] at h
    split at h
    · rename_i ty d h1 h2
      split at h
      · rename_i hc
        exact ⟨0, o, ty, rfl, h1, by rw [h2, hc.1], by simpa using hc.2, h⟩
      · exact rest h
    · exact rest h
theorem lays_mem {o : Oper} {ty : TypeId} {d : Nat} (h1 : o.op = .alloc ty) (h2 : o.dst = some d) : ∀ {l : List Oper}, o ∈ l → (d, ty) ∈ lays l
  | x :: l, h => by
    simp only [lays]
    cases h with
    | head => rw [h1, h2]; exact List.mem_cons_self ..
    | tail _ h => split <;> first | exact List.mem_cons_of_mem _ (lays_mem h1 h2 h) | exact lays_mem h1 h2 h
/-- two boxes laid in one region have two names -/
theorem lays_apart : ∀ {l : List Oper}, (lays l).Pairwise (fun a b => a.1 ≠ b.1) → ∀ {i j : Nat} {x y : Oper} {tx ty : TypeId} {d : Nat}, l[i]? = some x → l[j]? = some y → x.op = .alloc tx → y.op = .alloc ty → x.dst = some d → y.dst = some d → i = j
  | [], _, i, j, x, y, tx, ty, d, hi, _, _, _, _, _ => by simp at hi
  | z :: l, hp, i, j, x, y, tx, ty, d, hi, hj, h1, h2, h3, h4 => by
    have hp' : (lays l).Pairwise (fun a b => a.1 ≠ b.1) := by
      simp only [lays] at hp
      split at hp
      · exact (List.pairwise_cons.1 hp).2
      · exact hp
    cases i with
    | zero =>
      cases j with
      | zero => rfl
      | succ j =>
        simp at hi hj
        subst hi
        simp only [lays, h1, h3] at hp
        have := (List.pairwise_cons.1 hp).1 (d, ty) (lays_mem h2 h4 (List.mem_of_getElem? hj))
        exact absurd rfl this
    | succ i =>
      cases j with
      | zero =>
        simp at hi hj
        subst hj
        simp only [lays, h2, h4] at hp
        have := (List.pairwise_cons.1 hp).1 (d, tx) (lays_mem h1 h3 (List.mem_of_getElem? hi))
        exact absurd rfl this
      | succ j =>
        simp at hi hj
        rw [lays_apart hp' hi hj h1 h2 h3 h4]
theorem pendF_of : ∀ {l : List Oper}, (lays l).Pairwise (fun a b => a.1 ≠ b.1) → ∀ {k j : Nat} {L : Array Bool} {o : Oper} {ty : TypeId} {t : Nat}, l[j]? = some o → o.op = .alloc ty → o.dst = some t → L.getD (k + j) true = false → pendF P l k L t = (tyOf P ty).map (·.zero)
  | [], _, k, j, L, o, ty, t, h, _, _, _ => by simp at h
  | z :: l, hp, k, j, L, o, ty, t, h, h1, h2, h3 => by
    have hp' : (lays l).Pairwise (fun a b => a.1 ≠ b.1) := by
      simp only [lays] at hp
      split at hp
      · exact (List.pairwise_cons.1 hp).2
      · exact hp
    cases j with
    | zero =>
      simp at h; subst h
      simp only [pendF, h1, h2]
      rw [if_pos ⟨trivial, by simpa using h3⟩]
    | succ j =>
      simp at h
      have := pendF_of hp' (k := k + 1) h h1 h2 (L := L) (by rwa [show k + 1 + j = k + (j + 1) by omega])
      simp only [pendF]
      split
      · rename_i ty' d' e1 e2
        rw [if_neg]
        · exact this
        · rintro ⟨rfl, _⟩
          have := lays_apart hp (i := 0) (j := j + 1) rfl (by simpa using h) e1 h1 e2 h2
          cases this
      · exact this
def pendL (P : Program) (ops : Array Oper) (D : Nat) (pend : Nat → Nat → Option Box) (L : Array Bool) : Nat → Nat → Option Box := fun d t => if d = D then pendF P ops.toList 0 L t else pend d t
theorem lay_ok {r : Mem} : ∀ {l : List (Nat × TypeId)} {fr fr' : Fr} {pend : Nat → Nat → Option Box}, layAll P l fr = some fr' → Inv A w0 pend g (fr :: r) w → ∃ pend', Inv A w0 pend' g (fr' :: r) w ∧ (∀ d t b, pend d t = some b → pend' d t = some b) ∧
    (∀ q ∈ l, ∃ i, tyOf P q.2 = some i ∧ pend' r.length q.1 = some i.zero) ∧ l.Pairwise (fun a b => a.1 ≠ b.1) ∧ ∀ q ∈ l, lk fr q.1 = none
  | [], fr, fr', pend, h, hi => by
    simp only [layAll] at h; cases h
    exact ⟨pend, hi, fun _ _ _ h => h, fun q hq => (nomatch hq), List.Pairwise.nil, fun q hq => (nomatch hq)⟩
  | (d, t) :: l, fr, fr', pend, h, hi => by
    simp only [layAll] at h
    split at h
    · rename_i i hl hty
      have hlook : look (fr :: r) r.length d = none := by rw [look_head]; exact hl
      have hn : g.φ r.length d = none := by
        cases hb : g.φ r.length d with
        | none => rfl
        | some b => obtain ⟨_, _, _, l, cs, e, q, _⟩ := hi.φ _ _ _ hb; rw [hlook] at q; cases q
      have hup := zero_up hty (r.length + 1)
      have hi1 : Inv A w0 (fun d' t' => if d' = r.length ∧ t' = d then some i.zero else pend d' t') g (upd fr d i.zero :: r) w := by
        refine ⟨hi.laid, hi.below, hi.glob, hi.F, hi.M, fun d' t' b hb => ?_, hi.inj, hi.o, fun d' t' b hb => ?_, fun d' t' b hb => ?_⟩
        · obtain ⟨c1, c2, c3, l', cs, e, k1, k2⟩ := hi.φ _ _ _ hb
          refine ⟨c1, c2, c3, l', cs, e, ?_, k2⟩
          rw [look_upd, if_neg (fun q => by rw [q.1, q.2, hn] at hb; cases hb)]; exact k1
        · rw [look_upd] at hb
          split at hb
          · rename_i q; cases hb; rw [q.1]; exact hup.1
          · exact hi.up _ _ _ hb
        · have hb : (if d' = r.length ∧ t' = d then some i.zero else pend d' t') = some b := hb
          rw [look_upd]
          split at hb
          · rename_i q; cases hb; rw [if_pos q]; exact ⟨by rw [q.1, q.2]; exact hn, rfl⟩
          · rename_i q; rw [if_neg q]; exact hi.pend _ _ _ hb
      obtain ⟨pend', k1, k2, k3, k4, k5⟩ := lay_ok h hi1
      refine ⟨pend', k1, fun d' t' b hb => k2 _ _ _ ?_, fun q hq => ?_, List.pairwise_cons.2 ⟨fun q hq e => ?_, k4⟩, fun q hq => ?_⟩
      · show (if d' = r.length ∧ t' = d then some i.zero else pend d' t') = some b
        rw [if_neg (fun q => by have := (hi.pend _ _ _ hb).2; rw [q.1, q.2, hlook] at this; cases this)]; exact hb
      · cases hq with
        | head => exact ⟨i, hty, k2 _ _ _ (by simp)⟩
        | tail _ hq => exact k3 q hq
      · have := k5 q hq
        rw [lk_upd, ← e, if_pos rfl] at this
        cases this
      · cases hq with
        | head => exact hl
        | tail _ hq =>
          have := k5 q hq
          rw [lk_upd] at this
          split at this
          · cases this
          · exact this
    · cases h
theorem pendO_some {o : Oper} {d t : Nat} {b : Box} (base : pend d t = some b) (hne : ∀ ty dd, o.op = .alloc ty → o.dst = some dd → ¬ (d = D ∧ t = dd)) : pendO o D true pend d t = some b := by
  unfold pendO
  cases h1 : o.op <;> try exact base
  rename_i ty
  cases h2 : o.dst with
  | none => exact base
  | some dd =>
    show (if d = D ∧ t = dd then none else pend d t) = some b
    rw [if_neg (hne ty dd h1 h2)]; exact base
theorem any_sound (hcl : CallOK P A cl) {Q : Exit → Act → World → Prop} {R : St → Prop} {ds : List Deferred} (hpair : (lays ops.toList).Pairwise (fun a b => a.1 ≠ b.1)) (hty : ∀ q ∈ lays ops.toList, ∃ i, tyOf P q.2 = some i)
    (hgd : ∀ o ∈ ops.toList, (∃ t, o.op = .alloc t) → o.guard = none) (hQ : ∀ L st a w, R st → After A w0 (pendL P ops D pend L) gh D ds st a w → Q .normal a w) :
    ∀ (fuel : Nat) (L : Array Bool) (st : St) (a : Act) (w : World), L.size = ops.size → AnyA P A cl ro f ops R fuel L st → After A w0 (pendL P ops D pend L) gh D ds st a w → wpAny P .any ops Q fuel L a w
  | 0, L, st, a, w, _, h, hc => ⟨h.1, hQ L st a w h.2 hc⟩
  | fuel + 1, L, st, a, w, hL, h, hc => ⟨fun h0 => hQ L st a w (h.1 h0) hc, fun i hi => by
      obtain ⟨o, st', ho, hs, H⟩ := h.2 i hi
      have hun := (mem_ready.1 hi).1
      have hiL : i < L.size := by rw [hL]; exact (Array.getElem?_eq_some_iff.1 ho).1
      have ho' : ops.toList[i]? = some o := by simpa using ho
      unfold wpOp
      rw [ho]
      simp only
      refine step_ok hcl hc hs (fun t d h1 h2 _ => ?_) (fun _ hal => hgd o (List.mem_of_getElem? ho') hal) fun a' w' hc' => any_sound hcl hpair hty hgd hQ fuel _ st' a' w' (by simpa using hL) H ?_
      · obtain ⟨i', hi'⟩ := hty _ (lays_mem h1 h2 (List.mem_of_getElem? ho'))
        refine ⟨i', hi', ?_⟩
        show (if D = D then _ else _) = _
        rw [if_pos rfl, pendF_of hpair ho' h1 h2 (by simpa using hun), hi']; rfl
      · obtain ⟨e1, g, c1⟩ := hc'
        refine ⟨e1, g, ⟨c1.inv.weaken fun d t b hb => ?_, c1.gh, c1.tr, c1.len⟩⟩
        have hb' : (if d = D then pendF P ops.toList 0 (L.setIfInBounds i true) t else pend d t) = some b := hb
        have base : (if d = D then pendF P ops.toList 0 L t else pend d t) = some b := by
          by_cases hd : d = D
          · rw [if_pos hd] at hb' ⊢
            obtain ⟨j, oj, ty, q1, q2, q3, q4, q5⟩ := pendF_some hb'
            have hji : i ≠ j := fun e => by
              subst e
              rw [Nat.zero_add] at q4
              simp [hiL] at q4
            rw [Nat.zero_add, getD_set_ne true hji] at q4
            rw [pendF_of hpair q1 q2 q3 (by rw [Nat.zero_add]; exact q4), q5]
          · rw [if_neg hd] at hb' ⊢; exact hb'
        refine pendO_some base fun ty dd h1 h2 => ?_
        rintro ⟨rfl, rfl⟩
        rw [if_pos rfl] at hb'
        obtain ⟨j, oj, ty', q1, q2, q3, q4, q5⟩ := pendF_some hb'
        have := lays_apart hpair ho' q1 h1 q2 h2 q3
        subst this
        rw [Nat.zero_add] at q4
        simp [hiL] at q4⟩
theorem region_ok (hcl : CallOK P A cl) (hm : P.follows .mixedOrders = true) {draw : Bool} {id : Nat} {st st' : St} {ds : List Deferred} (hreg : draw = true → regOK A f ops = true) (hpD : ∀ t, pend D t = none) (h : After A w0 pend gh D ds st a w)
    (hs : region P A cl ro f draw ops st = some st') {Q : Exit → Act → World → Prop} (hk : ∀ a' w', After A w0 pend gh D ds st' a' w' → Q .normal a' w') : (Code.region id ops draw).wp P Q a w := by
  cases draw with
  | false =>
    simp only [region] at hs
    refine wp_region ?_
    have := steps_ok hcl (Q := Q) ops.toList 0 (fun j => by simp) h hs hk
    rwa [← List.range_eq_range', Array.length_toList] at this
  | true =>
    have hreg := hreg rfl
    simp only [regOK, Bool.and_eq_true] at hreg
    obtain ⟨⟨h1, h2⟩, h3⟩ := hreg
    simp only [region, if_true] at hs
    obtain ⟨hd, g, hc⟩ := h
    obtain ⟨tm, m⟩ := st
    simp only at hs hc
    match m, hs, hc with
    | fr :: r, hs, hc =>
      simp only at hs
      split at hs
      · rename_i fr' hl
        have hD : r.length = D := by have := hc.len; simpa using this
        obtain ⟨pend', k1, k2, k3, k4, k5⟩ := lay_ok hl hc.inv
        refine wp_region_any hm ?_
        simp only [Region.lexB, Bool.and_eq_true] at h1
        have hany := any_lex (cl := cl) (ro := ro) (f := f) (A := A) (P := P) hcl (R := fun s => s = st') (fun i j x y hx hy hne hno => by
          have hi' := List.all_eq_true.1 h3 i (List.mem_range.2 (Array.getElem?_eq_some_iff.1 hx).1)
          have hj' := List.all_eq_true.1 hi' j (List.mem_range.2 (Array.getElem?_eq_some_iff.1 hy).1)
          have hji : ¬ j ≤ i := by omega
          simp only [hx, hy, Bool.or_eq_true, decide_eq_true_eq, hji, false_or] at hj'
          rcases hj' with hj' | hj'
          · obtain ⟨e, he, hb⟩ := Array.any_eq_true'.1 hj'
            simp only [Bool.and_eq_true, beq_iff_eq] at hb
            exact absurd hb.2 (hno e he hb.1)
          · exact hj') ops.toList 0 (Array.replicate ops.size false) _ st' (fun j hj => by omega) (fun j => by simp) (by simpa using h1.2) hs rfl
        rw [Array.length_toList] at hany
        refine any_sound hcl (pend := pend) (D := D) (gh := gh) (w0 := w0) k4 (fun q hq => let ⟨i, hi, _⟩ := k3 q hq; ⟨i, hi⟩) (fun o ho hal => ?_) (fun L s a' w' hR hc' => ?_) _ _ _ _ _ (by simp) hany ⟨hd, g, ?_⟩
        · have := List.all_eq_true.1 h2 o ho
          obtain ⟨t, e⟩ := hal
          rw [e] at this
          simpa using this
        · subst hR
          obtain ⟨e1, g', c1⟩ := hc'
          refine hk _ _ ⟨e1, g', ⟨c1.inv.weaken fun d t b hb => ?_, c1.gh, c1.tr, c1.len⟩⟩
          show (if d = D then _ else _) = _
          rw [if_neg (fun e => by subst e; rw [hpD] at hb; cases hb)]; exact hb
        · refine ⟨(k1.weaken fun d t b hb => ?_).same rfl rfl rfl rfl, hc.gh, hc.tr, by simpa using hc.len⟩
          have hb' : (if d = D then pendF P ops.toList 0 (Array.replicate ops.size false) t else pend d t) = some b := hb
          by_cases hdd : d = D
          · rw [if_pos hdd] at hb'
            obtain ⟨j, oj, ty, q1, q2, q3, q4, q5⟩ := pendF_some hb'
            obtain ⟨i, hi, hz⟩ := k3 _ (lays_mem q2 q3 (List.mem_of_getElem? q1))
            rw [hi] at q5
            cases q5
            rw [hdd, ← hD]; exact hz
          · rw [if_neg hdd] at hb'
            exact k2 _ _ _ hb'
      · cases hs
    | [], hs, hc => cases hs
end Go.Eng
/- A function's text. -/
set_option linter.unusedVariables false
set_option linter.unusedSimpArgs false
set_option linter.unusedSectionVars false
namespace Go.Eng
open Go.RowKit
variable {P : Program} {A : Ann} {cl : CallF} {w0 : World} {pend : Nat → Nat → Option Box} {g : G} {m m' : Mem} {w : World} {gh : Gh} {D ro f k : Nat} {tm : List V} {a : Act}
/-! ### fewer boxes -/
section
variable {g' : G} (hF : g'.F = g.F) (ho : g'.o = g.o)
include hF ho
mutual
theorem RV.among {ks : List Nat} (hφ : ∀ d t b, g.φ d t = some b → (d = D → ks.contains t = true) → g'.φ d t = some b) : ∀ {x : V} {p : Pl} {u : Value}, x.among D ks = true → RV g p x u → RV g' p x u
  | .c x, p, u, _, h => by simp only [RV] at h ⊢; rw [hF]; exact h
  | .tip s l, p, u, _, h => by simp only [RV] at h ⊢; rw [hF]; refine ⟨h.1, fun a n c e1 e2 => ?_⟩; rw [ho]; exact h.2 a n c e1 e2
  | .p d t off, p, u, ha, h => by
    simp only [RV] at h ⊢
    obtain ⟨b, h1, h2⟩ := h
    refine ⟨b, hφ _ _ _ h1 fun e => ?_, h2⟩
    simp only [V.among] at ha
    rw [if_pos e] at ha; exact ha
  | .agg l, p, u, ha, h => by simp only [RV] at h ⊢; simp only [V.among] at ha; obtain ⟨cs, h1, h2, h3⟩ := h; exact ⟨cs, h1, RVL.among hφ ha h2, h3⟩
  | .tup l, p, u, ha, h => by simp only [RV] at h ⊢; simp only [V.among] at ha; obtain ⟨cs, h1, h2⟩ := h; exact ⟨cs, h1, RVL.among hφ ha h2⟩
  | .fn q l, p, u, ha, h => by simp only [RV] at h ⊢; simp only [V.among] at ha; obtain ⟨cs, h1, h2⟩ := h; exact ⟨cs, h1, RVL.among hφ ha h2⟩
  | .undef, p, u, _, h => trivial
  | .nagg l, p, u, ha, h => by simp only [RV] at h ⊢; simp only [V.among] at ha; obtain ⟨cs, h1, h2, h3⟩ := h; exact ⟨cs, h1, RVL.among hφ ha h2, h3⟩
theorem RVL.among {ks : List Nat} (hφ : ∀ d t b, g.φ d t = some b → (d = D → ks.contains t = true) → g'.φ d t = some b) : ∀ {l : List V} {cs : List Value}, amongL D ks l = true → RVL g l cs → RVL g' l cs
  | [], cs, _, h => h
  | x :: l, cs, ha, h => by
    simp only [RVL] at h ⊢
    simp only [amongL, Bool.and_eq_true] at ha
    obtain ⟨u, r, h1, h2, h3⟩ := h
    exact ⟨u, r, h1, RV.among hφ ha.1 h2, RVL.among hφ ha.2 h3⟩
end
mutual
theorem RV.low (hφ : ∀ d t b, g.φ d t = some b → d < D → g'.φ d t = some b) : ∀ {x : V} {p : Pl} {u : Value}, x.upTo D = true → RV g p x u → RV g' p x u
  | .c x, p, u, _, h => by simp only [RV] at h ⊢; rw [hF]; exact h
  | .tip s l, p, u, _, h => by simp only [RV] at h ⊢; rw [hF]; refine ⟨h.1, fun a n c e1 e2 => ?_⟩; rw [ho]; exact h.2 a n c e1 e2
  | .p d t off, p, u, ha, h => by
    simp only [RV] at h ⊢
    obtain ⟨b, h1, h2⟩ := h
    simp only [V.upTo, decide_eq_true_eq] at ha
    exact ⟨b, hφ _ _ _ h1 ha, h2⟩
  | .agg l, p, u, ha, h => by simp only [RV] at h ⊢; simp only [V.upTo] at ha; obtain ⟨cs, h1, h2, h3⟩ := h; exact ⟨cs, h1, RVL.low hφ ha h2, h3⟩
  | .tup l, p, u, ha, h => by simp only [RV] at h ⊢; simp only [V.upTo] at ha; obtain ⟨cs, h1, h2⟩ := h; exact ⟨cs, h1, RVL.low hφ ha h2⟩
  | .fn q l, p, u, ha, h => by simp only [RV] at h ⊢; simp only [V.upTo] at ha; obtain ⟨cs, h1, h2⟩ := h; exact ⟨cs, h1, RVL.low hφ ha h2⟩
  | .undef, p, u, _, h => trivial
  | .nagg l, p, u, ha, h => by simp only [RV] at h ⊢; simp only [V.upTo] at ha; obtain ⟨cs, h1, h2, h3⟩ := h; exact ⟨cs, h1, RVL.low hφ ha h2, h3⟩
theorem RVL.low (hφ : ∀ d t b, g.φ d t = some b → d < D → g'.φ d t = some b) : ∀ {l : List V} {cs : List Value}, upToL D l = true → RVL g l cs → RVL g' l cs
  | [], cs, _, h => h
  | x :: l, cs, ha, h => by
    simp only [RVL] at h ⊢
    simp only [upToL, Bool.and_eq_true] at ha
    obtain ⟨u, r, h1, h2, h3⟩ := h
    exact ⟨u, r, h1, RV.low hφ ha.1 h2, RVL.low hφ ha.2 h3⟩
end
end
def G.cut (g : G) (D : Nat) (ks : List Nat) : G := { g with φ := fun d t => if d = D ∧ ks.contains t = false then none else g.φ d t }
theorem cut_some {ks : List Nat} {d t b : Nat} (h : (g.cut D ks).φ d t = some b) : g.φ d t = some b ∧ (d = D → ks.contains t = true) := by
  have h' : (if d = D ∧ ks.contains t = false then none else g.φ d t) = some b := h
  split at h'
  · cases h'
  · rename_i hq
    refine ⟨h', fun e => ?_⟩
    cases hc : ks.contains t with
    | true => rfl
    | false => exact absurd ⟨e, hc⟩ hq
theorem cut_of {ks : List Nat} {d t b : Nat} (h : g.φ d t = some b) (hk : d = D → ks.contains t = true) : (g.cut D ks).φ d t = some b := by
  show (if d = D ∧ ks.contains t = false then none else g.φ d t) = some b
  rw [if_neg]
  · exact h
  · rintro ⟨e, h2⟩
    rw [hk e] at h2; cases h2
theorem TR.cut {ks : List Nat} {n : Nat} {vals : Array Value} (h : TR g n tm vals) (hn : n < D) : TR (g.cut D ks) n tm vals :=
  ⟨h.size, fun t x u hx hu => (h.rel t x u hx hu).low (g := g) (g' := g.cut D ks) (D := D) rfl rfl (fun d t b hb hd => cut_of hb fun e => by omega) (upTo_le (by omega) ((upToL_mem.1 h.up) x (List.mem_of_getElem? hx))), h.up⟩
theorem GHR.cut {ks : List Nat} (h : GHR g D gh) : GHR (g.cut D ks) D gh := fun k hk => (h k hk).cut hk
theorem amongL_mem {ks : List Nat} {l : List V} : amongL D ks l = true ↔ ∀ x ∈ l, x.among D ks = true := by
  induction l with
  | nil => simp [amongL]
  | cons x l ih => simp [amongL, ih]
theorem lk_mem {fr : Fr} {t : Nat} {b : Box} (h : lk fr t = some b) : (t, b) ∈ fr := by
  induction fr with
  | nil => simp [lk] at h
  | cons q r ih =>
    obtain ⟨k, x⟩ := q
    simp only [lk] at h
    split at h
    · rename_i e; cases h; rw [e]; exact List.mem_cons_self ..
    · exact List.mem_cons_of_mem _ (ih h)
theorem amongF_mem {ks : List Nat} {fr : Fr} (h : amongF D ks fr = true) {t : Nat} {b : Box} (hm : (t, b) ∈ fr) : amongL D ks b = true := by
  induction fr with
  | nil => cases hm
  | cons q r ih =>
    obtain ⟨k, x⟩ := q
    simp only [amongF, Bool.and_eq_true] at h
    cases hm with
    | head => exact h.1
    | tail _ hm => exact ih h.2 hm
theorem lk_keepF (ks : List Nat) (t : Nat) : ∀ fr : Fr, lk (keepF ks fr) t = if ks.contains t = true then lk fr t else none
  | [] => by simp [keepF, lk]
  | (k, x) :: r => by
    simp only [keepF]
    by_cases hk : ks.contains k = true
    · rw [if_pos hk]
      simp only [lk]
      by_cases e : t = k
      · rw [if_pos e, if_pos e, e, if_pos hk]
      · rw [if_neg e, if_neg e]; exact lk_keepF ks t r
    · rw [if_neg hk, lk_keepF ks t r]
      simp only [lk]
      by_cases e : t = k
      · rw [e, if_neg hk, if_neg hk]
      · rw [if_neg e]
theorem keep_get : ∀ (l l2 : List V) (t : Nat) (x : V), (keep l l2)[t]? = some x → x = .undef ∨ l2[t]? = some x
  | l, [], t, x, h => by simp [keep] at h
  | [], y :: s, t, x, h => by
    simp only [keep] at h
    cases t with
    | zero => simp at h; exact .inl h.symm
    | succ t => simp at h; rcases keep_get [] s t x h with e | e; exact .inl e; exact .inr (by simpa using e)
  | z :: r, y :: s, t, x, h => by
    have : keep (z :: r) (y :: s) = (if z.isUndef then .undef else y) :: keep r s := by cases z <;> rfl
    rw [this] at h
    cases t with
    | zero =>
      simp at h
      split at h
      · exact .inl h.symm
      · exact .inr (by simp [h])
    | succ t => simp at h; rcases keep_get r s t x h with e | e; exact .inl e; exact .inr (by simpa using e)
theorem keep_len : ∀ (l l2 : List V), (keep l l2).length = l2.length
  | l, [] => by simp [keep]
  | [], y :: s => by simp [keep, keep_len [] s]
  | z :: r, y :: s => by
    have : keep (z :: r) (y :: s) = (if z.isUndef then .undef else y) :: keep r s := by cases z <;> rfl
    rw [this]; simp [keep_len r s]
/-- a frame's boxes, some of them gone -/
theorem Inv.cut {fr1 fr2 : Fr} {r : Mem} {ks : List Nat} (h : Inv A w0 pend g (fr1 :: r) w) (hD : r.length = D) (hpD : ∀ t, pend D t = none) (hlk : ∀ t, lk fr2 t = if ks.contains t = true then lk fr1 t else none)
    (ham : ∀ t b, lk fr2 t = some b → amongL D ks b = true) : Inv A w0 pend (g.cut D ks) (fr2 :: r) w := by
  have hlook : ∀ d t, (d = D → ks.contains t = true) → look (fr2 :: r) d t = look (fr1 :: r) d t := fun d t hk => by
    simp only [look]
    by_cases e : d = r.length
    · rw [if_pos e, if_pos e, hlk, if_pos (hk (e.trans hD))]
    · rw [if_neg e, if_neg e]
  refine ⟨h.laid, h.below, h.glob, h.F, h.M, fun d t b hb => ?_, fun d t d' t' b h1 h2 => h.inj _ _ _ _ _ (cut_some h1).1 (cut_some h2).1, h.o, fun d t l hl => ?_, fun d t l hl => ?_⟩
  · obtain ⟨hb', hk⟩ := cut_some hb
    obtain ⟨c1, c2, c3, l, cs, e, k1, k2, k3, k5, k4⟩ := h.φ _ _ _ hb'
    have hlt := look_lt k1
    refine ⟨c1, c2, c3, l, cs, e, by rw [hlook _ _ hk]; exact k1, k2, k3, k5, fun i x u hx hu => ?_⟩
    by_cases hd : d = D
    · have hl2 : lk fr2 t = some l := by
        rw [hlk, if_pos (hk hd)]
        rw [hd, ← hD, look_head] at k1; exact k1
      exact (k4 i x u hx hu).among (g := g) (g' := g.cut D ks) (D := D) (ks := ks) rfl rfl (fun d t b hb hk => cut_of hb hk) ((amongL_mem.1 (ham t l hl2)) x (List.mem_of_getElem? hx))
    · have hd' : d < D := by simp at hlt; omega
      exact (k4 i x u hx hu).low (g := g) (g' := g.cut D ks) (D := D) rfl rfl (fun d t b hb hd => cut_of hb fun e => by omega) (upTo_le (by omega) ((upToL_mem.1 (h.up _ _ _ k1)) x (List.mem_of_getElem? hx)))
  · by_cases hk : d = D → ks.contains t = true
    · rw [hlook _ _ hk] at hl; exact h.up _ _ _ hl
    · exfalso
      have hd : d = D := by
        refine Classical.byContradiction fun e => hk fun e' => absurd e' e
      rw [hd, ← hD, look_head, hlk, if_neg (fun e => hk fun _ => e)] at hl
      cases hl
  · obtain ⟨p1, p2⟩ := h.pend _ _ _ hl
    have hd : d ≠ D := fun e => by rw [e, hpD] at hl; cases hl
    refine ⟨?_, by rw [hlook _ _ fun e => absurd e hd]; exact p2⟩
    show (if d = D ∧ _ then _ else _) = _
    rw [if_neg (fun e => hd e.1)]; exact p1
theorem dropT_get {d : Nat} {ks : List Nat} : ∀ (l : List V) (t : Nat) (x : V), (dropT d ks l)[t]? = some x → x = .undef ∨ (l[t]? = some x ∧ x.among d ks = true)
  | [], t, x, h => by simp [dropT] at h
  | y :: r, t, x, h => by
    simp only [dropT] at h
    cases t with
    | zero =>
      simp only [List.getElem?_cons_zero, Option.some.injEq] at h
      by_cases hy : y.among d ks = true
      · rw [if_pos hy] at h; subst h; exact .inr ⟨rfl, hy⟩
      · rw [if_neg hy] at h; exact .inl h.symm
    | succ t => exact dropT_get r t x (by simpa using h)
theorem dropT_len {d : Nat} {ks : List Nat} : ∀ (l : List V), (dropT d ks l).length = l.length
  | [] => rfl
  | y :: r => by simp [dropT, dropT_len r]
theorem clean_ok {st st1 st2 : St} {ds : List Deferred} (hpD : ∀ t, pend D t = none) (h : After A w0 pend gh D ds st1 a w) (hc : clean st st1 = some st2) : After A w0 pend gh D ds st2 a w := by
  obtain ⟨hd, g, hx⟩ := h
  unfold clean at hc
  split at hc
  · rename_i fr r fr1 r1 e1 e2
    simp only at hc
    split at hc
    · rename_i hcond
      cases hc
      have hlen : r1.length = D := by have := hx.len; rw [e2] at this; simpa using this
      rw [hlen] at hcond
      have hi := hx.inv
      rw [e2] at hi
      obtain ⟨ks, hks⟩ : ∃ ks, ks = fr.map (·.1) := ⟨_, rfl⟩
      rw [← hks] at hcond ⊢
      refine ⟨hd, g.cut D ks, ⟨hi.cut hlen hpD (fun t => lk_keepF ks t fr1) fun t b hb => ?_, hx.gh.cut, ⟨by rw [dropT_len, keep_len]; exact hx.tr.size, fun t x u hx' hu => ?_, ?_⟩, by simp [hlen]⟩⟩
      · exact amongF_mem hcond (lk_mem hb)
      · rcases dropT_get _ _ _ hx' with rfl | ⟨hx3, ham⟩
        · trivial
        · rcases keep_get _ _ _ _ hx3 with rfl | hx2
          · trivial
          · exact (hx.tr.rel t x u hx2 hu).among (g := g) (g' := g.cut D ks) (D := D) (ks := ks) rfl rfl (fun d t b hb hk => cut_of hb hk) (by rw [hlen] at ham; exact ham)
      · rw [upToL_mem]
        intro x hx'
        obtain ⟨t, ht⟩ := List.getElem?_of_mem hx'
        rcases dropT_get _ _ _ ht with rfl | ⟨hx3, _⟩
        · rfl
        · rcases keep_get _ _ _ _ hx3 with rfl | hx2
          · rfl
          · exact (upToL_mem.1 hx.tr.up) x (List.mem_of_getElem? hx2)
    · cases hc
  · cases hc
/-! ### code -/
def codeOK (A : Ann) (f : Nat) : Code → Bool
  | .region _ ops draw => !draw || regOK A f ops
  | .seq a b => codeOK A f a && codeOK A f b
  | .cond _ a b => codeOK A f a && codeOK A f b
  | .block _ b => codeOK A f b
  | .loop b => codeOK A f b
  | _ => true
def exOf : Ex → Exit | .n => .normal | .exit id => .exit id | .ret => .ret
def BodyOK (P : Program) (A : Ann) (w0 : World) (pend : Nat → Nat → Option Box) (gh : Gh) (D : Nat) (ds : List Deferred) (c : Code) (fn : St → Option (Ex × St)) : Prop :=
  ∀ st ex st' a w, fn st = some (ex, st') → After A w0 pend gh D ds st a w → ∀ Q : Exit → Act → World → Prop, (∀ a' w', After A w0 pend gh D ds st' a' w' → Q (exOf ex) a' w') → c.wp P Q a w
theorem loop_ok {ds : List Deferred} {c : Code} {fn : St → Option (Ex × St)} (hpD : ∀ t, pend D t = none) (hb : BodyOK P A w0 pend gh D ds c fn) : ∀ n, BodyOK P A w0 pend gh D ds (.loop c) (loop fn n) := by
  intro n
  have key : ∀ n st ex st' a w, loop fn n st = some (ex, st') → After A w0 pend gh D ds st a w → ∀ Q : Exit → Act → World → Prop, (∀ a' w', After A w0 pend gh D ds st' a' w' → Q (exOf ex) a' w') →
      ∀ (b : Frame) (k : List Item) (cs : List Frame), ∃ e a' w', Q e a' w' ∧ Arrives P (lone (b.at a (.code c :: .inLoop c :: k)) cs w) b k cs e a' w' := by
    intro n
    induction n with
    | zero => intro st ex st' a w h; simp [loop] at h
    | succ n ih =>
      intro st ex st' a w h hA Q hQ b k cs
      simp only [loop] at h
      split at h
      · rename_i st1 h1
        split at h
        · rename_i st2 h2
          obtain ⟨e, a1, w1, hq, harr⟩ := hb st .n st1 a w h1 hA (fun e a' w' => e = .normal ∧ After A w0 pend gh D ds st1 a' w') (fun a' w' h' => ⟨rfl, h'⟩) b (.inLoop c :: k) cs
          obtain ⟨rfl, hA1⟩ := hq
          obtain ⟨e₂, a₂, w₂, hq₂, harr₂⟩ := ih st2 ex st' a1 w1 h (clean_ok hpD hA1 h2) Q hQ b k cs
          exact ⟨e₂, a₂, w₂, hq₂, .of_steps (Steps.trans harr (.one step_inLoop)) harr₂⟩
        · cases h
      · rename_i h1
        obtain ⟨e, a1, w1, hq, harr⟩ := hb st ex st' a w h hA (fun e a' w' => e = exOf ex ∧ Q e a' w') (fun a' w' h' => ⟨rfl, hQ _ _ h'⟩) b (.inLoop c :: k) cs
        obtain ⟨rfl, hq⟩ := hq
        have hne : exOf ex ≠ .normal := by
          cases ex with
          | n => exact absurd h (h1 st')
          | exit id => simp [exOf]
          | ret => simp [exOf]
        exact ⟨_, a1, w1, hq, .pass (x := .inLoop c) rfl (fun _ _ => .inl hne) harr⟩
  intro st ex st' a w h hA Q hQ b k cs
  obtain ⟨e, a', w', hq, harr⟩ := key n st ex st' a w h hA Q hQ b k cs
  exact ⟨e, a', w', hq, .of_steps (.one step_loop) harr⟩
theorem evC_ok (hcl : CallOK P A cl) (hm : P.follows .mixedOrders = true) {ds : List Deferred} (hpD : ∀ t, pend D t = none) : ∀ (c : Code), codeOK A f c = true → BodyOK P A w0 pend gh D ds c (evC P A cl ro f k c)
  | .skip, _ => fun st ex st' a w h hA Q hQ => by simp only [evC] at h; cases h; exact wp_skip (hQ _ _ hA)
  | .label _, _ => fun st ex st' a w h hA Q hQ => by simp only [evC] at h; cases h; exact wp_label (hQ _ _ hA)
  | .exit _, _ => fun st ex st' a w h hA Q hQ => by simp only [evC] at h; cases h; exact wp_exit (hQ _ _ hA)
  | .ret, _ => fun st ex st' a w h hA Q hQ => by simp only [evC] at h; cases h; exact wp_ret (hQ _ _ hA)
  | .goto _, _ => fun st ex st' a w h => by simp only [evC] at h; cases h
  | .refuse _, _ => fun st ex st' a w h => by simp only [evC] at h; cases h
  | .scope _, _ => fun st ex st' a w h => by simp only [evC] at h; cases h
  | .rangeFunc .., _ => fun st ex st' a w h => by simp only [evC] at h; cases h
  | .region id ops draw, hok => fun st ex st' a w h hA Q hQ => by
    simp only [evC] at h
    obtain ⟨s, hs, e⟩ := Option.map_eq_some_iff.1 h
    cases e
    refine region_ok hcl hm (fun hd => ?_) hpD hA hs hQ
    simp only [codeOK, hd] at hok
    simpa using hok
  | .seq x y, hok => fun st ex st' a w h hA Q hQ => by
    simp only [codeOK, Bool.and_eq_true] at hok
    simp only [evC] at h
    split at h
    · rename_i st1 h1
      exact wp_seq (evC_ok hcl hm hpD x hok.1 st .n st1 a w h1 hA _ fun a' w' h' => evC_ok hcl hm hpD y hok.2 st1 ex st' a' w' h h' Q hQ)
    · rename_i h1
      refine wp_seq (evC_ok hcl hm hpD x hok.1 st ex st' a w h hA _ fun a' w' h' => ?_)
      cases ex with
      | n => exact absurd h (h1 st')
      | exit id => exact hQ _ _ h'
      | ret => exact hQ _ _ h'
  | .cond c x y, hok => fun st ex st' a w h hA Q hQ => by
    simp only [codeOK, Bool.and_eq_true] at hok
    simp only [evC] at h
    split at h
    · rename_i q hq
      obtain ⟨hd, g, hx⟩ := hA
      have hb := (reads_ok hx.inv.glob hx.tr _ _ (asBool_ok hq)).1.scalar.1
      refine wp_cond hb ?_
      cases q with
      | true => exact evC_ok hcl hm hpD x hok.1 st ex st' a w h ⟨hd, g, hx⟩ Q hQ
      | false => exact evC_ok hcl hm hpD y hok.2 st ex st' a w h ⟨hd, g, hx⟩ Q hQ
    · cases h
  | .block id b, hok => fun st ex st' a w h hA Q hQ => by
    simp only [codeOK] at hok
    simp only [evC] at h
    split at h
    · rename_i id' st1 h1
      refine wp_block (evC_ok hcl hm hpD b hok st _ st1 a w h1 hA _ fun a' w' h' => ?_)
      simp only [exOf, Exit.inBlock]
      split at h
      · rename_i e; cases h; rw [if_pos e]; exact hQ _ _ h'
      · rename_i e; cases h; rw [if_neg e]; exact hQ _ _ h'
    · rename_i h1
      refine wp_block (evC_ok hcl hm hpD b hok st ex st' a w h hA _ fun a' w' h' => ?_)
      cases ex with
      | n => exact hQ _ _ h'
      | exit id' => exact absurd h (h1 id' st')
      | ret => exact hQ _ _ h'
  | .loop b, hok => by
    simp only [codeOK] at hok
    exact loop_ok hpD (evC_ok hcl hm hpD b hok) k
end Go.Eng
/- A function; all functions. -/
set_option linter.unusedVariables false
set_option linter.unusedSimpArgs false
set_option linter.unusedSectionVars false
namespace Go.Eng
open Go.RowKit
variable {P : Program} {A : Ann} {cl : CallF} {ro f k : Nat}
/-- the n lowest frames -/
def low (n : Nat) (m : Mem) : Mem := m.drop (m.length - n)
theorem low_cons {n : Nat} {fr : Fr} {r : Mem} (h : n ≤ r.length) : low n (fr :: r) = low n r := by
  unfold low
  have : (fr :: r).length - n = (r.length - n) + 1 := by simp; omega
  rw [this, List.drop_succ_cons]
theorem low_put {n d t : Nat} {b : Box} : ∀ {m : Mem}, n ≤ d → low n (put m d t b) = low n m
  | [], _ => rfl
  | f :: r, h => by
    simp only [put]
    split
    · rename_i e; rw [low_cons (by omega), low_cons (by omega)]
    · by_cases hn : n ≤ r.length
      · rw [low_cons (by rw [put_length]; exact hn), low_cons hn, low_put h]
      · -- nothing is put there
        have : put r d t b = r := by
          have key : ∀ m : Mem, m.length ≤ d → put m d t b = m := by
            intro m
            induction m with
            | nil => intro _; rfl
            | cons x s ih =>
              intro hm
              simp only [List.length_cons] at hm
              simp only [put]
              rw [if_neg (by omega), ih (by omega)]
          exact key r (by omega)
        rw [this]
theorem low_all {m m' : Mem} (h : m'.length = m.length) (hl : low m.length m' = low m.length m) : m' = m := by
  unfold low at hl
  rw [h, Nat.sub_self] at hl
  simpa using hl
structure Keeps (ro : Nat) (m m' : Mem) : Prop where
  len : m'.length = m.length
  low : ∀ n, n ≤ ro → n < m.length → low n m' = low n m
theorem Keeps.refl (m : Mem) : Keeps ro m m := ⟨rfl, fun _ _ _ => rfl⟩
theorem Keeps.trans {a b c : Mem} (h : Keeps ro a b) (k : Keeps ro b c) : Keeps ro a c := ⟨k.len.trans h.len, fun n h1 h2 => (k.low n h1 (by rw [h.len]; exact h2)).trans (h.low n h1 h2)⟩
theorem Keeps.head {fr fr' : Fr} {r : Mem} : Keeps ro (fr :: r) (fr' :: r) := ⟨rfl, fun n _ h => by simp at h; rw [low_cons (by omega), low_cons (by omega)]⟩
theorem Keeps.put {m : Mem} {d t : Nat} {b : Box} (h : ro ≤ d) : Keeps ro m (put m d t b) := ⟨put_length .., fun n h1 _ => low_put (by omega)⟩
/-- what calls keep -/
structure CallLow (cl : CallF) : Prop where
  len : ∀ ro f vs m r m', cl ro f vs m = some (r, m') → m'.length = m.length
  low : ∀ ro f vs m r m', cl ro f vs m = some (r, m') → ∀ n, n ≤ ro → n ≤ m.length → low n m' = low n m
theorem core_keeps (hcl : CallLow cl) {draw strict : Bool} {o : Oper} {rd rt : Operand → Option V} {m m' : Mem} {v : V} (h : core P A cl ro f draw strict o rd rt m = some (v, m')) : Keeps ro m m' := by
  have pure_case : ∀ {q : Option V}, (q.map fun v => (v, m)) = some (v, m') → Keeps ro m m' := fun {q} e => by
    obtain ⟨v', hv, e⟩ := Option.map_eq_some_iff.1 e
    cases e; exact Keeps.refl _
  have call_case : ∀ {g vs}, callQ cl ro strict g vs m = some (v, m') → Keeps ro m m' := fun {g vs} e => by
    unfold callQ at e
    split at e
    · split at e
      · cases e; exact Keeps.refl _
      · cases e
    · exact ⟨hcl.len _ _ _ _ _ _ e, fun n h1 h2 => hcl.low _ _ _ _ _ _ e n h1 (by omega)⟩
  unfold core at h
  cases ho : o.op <;> simp only [ho] at h <;> try (first | exact pure_case h | (cases h; done))
  case move x => split at h; exact pure_case h; cases h
  case load t x =>
    repeat' split at h
    all_goals first | exact pure_case h | (cases h; done) | (cases h; exact Keeps.put ‹_›)
  case store t y x =>
    repeat' split at h
    all_goals first | (cases h; done) | (cases h; exact Keeps.put (by rename_i hc; exact hc.2.2.2.2))
  case alloc t =>
    repeat' split at h
    all_goals first | (cases h; done) | (cases h; exact Keeps.refl _) | (cases h; exact Keeps.head)
  case box t x =>
    repeat' split at h
    all_goals first | (cases h; done) | (cases h; exact Keeps.refl _) | (cases h; exact Keeps.head)
  case call c =>
    repeat' split at h
    all_goals first | exact call_case h | exact pure_case h | (cases h; done)
theorem step_keeps (hcl : CallLow cl) {draw : Bool} {ops : Array Oper} {o : Oper} {st st' : St} (h : step P A cl ro f draw ops o st = some st') : Keeps ro st.m st'.m := by
  unfold step at h
  split at h
  · split at h
    · cases h
    split at h
    · rename_i hc; cases h; exact core_keeps hcl hc
    · cases h
  · cases h; exact Keeps.refl _
  · cases h
theorem steps_keeps (hcl : CallLow cl) {draw : Bool} {ops : Array Oper} : ∀ {l : List Oper} {st st' : St}, steps P A cl ro f draw ops l st = some st' → Keeps ro st.m st'.m
  | [], st, st', h => by simp only [steps] at h; cases h; exact Keeps.refl _
  | o :: l, st, st', h => by
    simp only [steps] at h
    split at h
    · rename_i h1; exact (step_keeps hcl h1).trans (steps_keeps hcl h)
    · cases h
theorem region_keeps (hcl : CallLow cl) {draw : Bool} {ops : Array Oper} {st st' : St} (h : region P A cl ro f draw ops st = some st') : Keeps ro st.m st'.m := by
  unfold region at h
  split at h
  · split at h
    · rename_i fr r e
      split at h
      · have := steps_keeps hcl h
        rw [e]
        exact Keeps.head.trans this
      · cases h
    · cases h
  · exact steps_keeps hcl h
theorem clean_keeps {st st1 st2 : St} (h : clean st st1 = some st2) : Keeps ro st1.m st2.m := by
  unfold clean at h
  split at h
  · rename_i e1 e2
    simp only at h
    split at h
    · cases h; rw [e2]; exact Keeps.head
    · cases h
  · cases h
theorem loop_keeps {fn : St → Option (Ex × St)} (hb : ∀ st ex st', fn st = some (ex, st') → Keeps ro st.m st'.m) : ∀ n st ex st', loop fn n st = some (ex, st') → Keeps ro st.m st'.m
  | 0, st, ex, st', h => by simp [loop] at h
  | n + 1, st, ex, st', h => by
    simp only [loop] at h
    split at h
    · rename_i st1 h1
      split at h
      · rename_i h2; exact ((hb _ _ _ h1).trans (clean_keeps h2)).trans (loop_keeps hb n _ _ _ h)
      · cases h
    · exact hb _ _ _ h
theorem evC_keeps (hcl : CallLow cl) : ∀ (c : Code) st ex st', evC P A cl ro f k c st = some (ex, st') → Keeps ro st.m st'.m
  | .skip, st, ex, st', h => by simp only [evC] at h; cases h; exact Keeps.refl _
  | .label _, st, ex, st', h => by simp only [evC] at h; cases h; exact Keeps.refl _
  | .exit _, st, ex, st', h => by simp only [evC] at h; cases h; exact Keeps.refl _
  | .ret, st, ex, st', h => by simp only [evC] at h; cases h; exact Keeps.refl _
  | .goto _, st, ex, st', h => by simp only [evC] at h; cases h
  | .refuse _, st, ex, st', h => by simp only [evC] at h; cases h
  | .scope _, st, ex, st', h => by simp only [evC] at h; cases h
  | .rangeFunc .., st, ex, st', h => by simp only [evC] at h; cases h
  | .region id ops draw, st, ex, st', h => by
    simp only [evC] at h
    obtain ⟨s, hs, e⟩ := Option.map_eq_some_iff.1 h
    cases e
    exact region_keeps hcl hs
  | .seq x y, st, ex, st', h => by
    simp only [evC] at h
    split at h
    · rename_i st1 h1; exact (evC_keeps hcl x _ _ _ h1).trans (evC_keeps hcl y _ _ _ h)
    · exact evC_keeps hcl x _ _ _ h
  | .cond c x y, st, ex, st', h => by
    simp only [evC] at h
    split at h
    · split at h
      · exact evC_keeps hcl x _ _ _ h
      · exact evC_keeps hcl y _ _ _ h
    · cases h
  | .block id b, st, ex, st', h => by
    simp only [evC] at h
    split at h
    · rename_i h1
      split at h <;> (cases h; exact evC_keeps hcl b _ _ _ h1)
    · exact evC_keeps hcl b _ _ _ h
  | .loop b, st, ex, st', h => by
    simp only [evC] at h
    exact loop_keeps (evC_keeps hcl b) k _ _ _ h
theorem finish_some {fn : Func} {r : Option (Ex × St)} {v : V} {m : Mem} (h : finish P fn r = some (v, m)) : ∃ ex st l fr, r = some (ex, st) ∧ (ex = .n ∨ ex = .ret) ∧ resAll P st fn.results.toList = some l ∧ st.m = fr :: m ∧ v = resV l ∧ v.upTo m.length = true ∧ v.isUndef = false := by
  have main : ∀ st, (match resAll P st fn.results.toList, st.m with
      | some l, _ :: r => if (resV l).upTo r.length && !(resV l).isUndef then some (resV l, r) else none
      | _, _ => none) = some (v, m) → ∃ l fr, resAll P st fn.results.toList = some l ∧ st.m = fr :: m ∧ v = resV l ∧ v.upTo m.length = true ∧ v.isUndef = false := by
    intro st h
    split at h
    · rename_i l fr r' e1 e2
      split at h
      · rename_i hc
        cases h
        simp only [Bool.and_eq_true, Bool.not_eq_true'] at hc
        exact ⟨l, fr, e1, e2, rfl, hc.1, hc.2⟩
      · cases h
    · cases h
  unfold finish at h
  split at h
  · rename_i st
    obtain ⟨l, fr, h1⟩ := main _ h
    exact ⟨.n, st, l, fr, rfl, .inl rfl, h1⟩
  · rename_i st
    obtain ⟨l, fr, h1⟩ := main _ h
    exact ⟨.ret, st, l, fr, rfl, .inr rfl, h1⟩
  · cases h
theorem all_isC : ∀ {vs : List V}, vs.all V.isC = true → vs = (vs.map V.toC).map V.c
  | [], _ => rfl
  | x :: r, h => by
    simp only [List.all_cons, Bool.and_eq_true] at h
    obtain ⟨h1, h2⟩ := h
    have ih := all_isC h2
    cases x <;> first | (cases h1; done) | skip
    simp only [List.map_cons, V.toC]
    rw [← ih]
theorem evF_some {n ro : Nat} {g : FuncId} {vs : List V} {m m' : Mem} {r : V} (h : evF P A (n + 1) ro g vs m = some (r, m')) : A.fn g = true ∧
    ((∃ q cs, A.ext g = some q ∧ vs = cs.map V.c ∧ q cs = some r ∧ r.upTo 0 = true ∧ m' = m) ∨
    (A.ext g = none ∧ ∃ fn c, P.funcs[g]? = some fn ∧ fn.body = some c ∧ vs.length ≤ fn.ntmps ∧
    finish P fn (evC P A (evF P A n) ro g n c ⟨vs ++ List.replicate (fn.ntmps - vs.length) .undef, [] :: m⟩) = some (r, m'))) := by
  simp only [evF] at h
  split at h
  · cases h
  · rename_i hA
    refine ⟨by simpa using hA, ?_⟩
    split at h
    · rename_i q hq
      split at h
      · rename_i hv
        split at h
        · rename_i r' hr
          split at h
          · rename_i hu
            cases h
            exact .inl ⟨q, _, hq, all_isC hv, hr, hu, rfl⟩
          · cases h
        · cases h
      · cases h
    · rename_i hq
      split at h
      · rename_i fn hf
        split at h
        · rename_i c hc
          split at h
          · rename_i hl
            exact .inr ⟨hq, fn, c, hf, hc, hl, h⟩
          · cases h
        · cases h
      · cases h
theorem evF_low : ∀ n, CallLow (evF P A n)
  | 0 => ⟨fun _ _ _ _ _ _ h => by simp [evF] at h, fun _ _ _ _ _ _ h => by simp [evF] at h⟩
  | n + 1 => by
    have ih := evF_low n
    have main : ∀ ro f vs m r m', evF P A (n + 1) ro f vs m = some (r, m') → m'.length = m.length ∧ ∀ n, n ≤ ro → n ≤ m.length → low n m' = low n m := by
      intro ro f vs m r m' h
      obtain ⟨hA, ⟨q, cs, _, _, _, _, rfl⟩ | ⟨hx, fn, c, hf, hc, hvl, hfin⟩⟩ := evF_some h
      · exact ⟨rfl, fun _ _ _ => rfl⟩
      obtain ⟨ex, st, l, fr, h1, h2, h3, h4, h5, h6, h7⟩ := finish_some hfin
      have hk := evC_keeps ih c _ _ _ h1
      rw [h4] at hk
      have hlen : m'.length = m.length := by have := hk.len; simpa using this
      refine ⟨hlen, fun q q1 q2 => ?_⟩
      have := hk.low q q1 (by simp; omega)
      rwa [low_cons (by omega), low_cons q2] at this
    exact ⟨fun ro f vs m r m' h => (main ro f vs m r m' h).1, fun ro f vs m r m' h => (main ro f vs m r m' h).2⟩
/-- what a function told by hand answers: its own words -/
def ExtOK (P : Program) (A : Ann) (f : Nat) (q : List C → Option V) : Prop :=
  ∀ cs r, q cs = some r → ∀ w0 pend g m w (vals : Array Value), Inv A w0 pend g m w → RA g.F cs vals.toList →
    Calls P f vals w (fun e w' => ∃ u g', e = .returned u ∧ Inv A w0 pend g' m w' ∧ Ext g g' (fun _ => False) ∧ RV g' .res r u)
/-- what the program must be -/
structure ProgOK (P : Program) (A : Ann) : Prop where
  ext : ∀ f q, A.fn f = true → A.ext f = some q → (∃ fn c, P.funcs[f]? = some fn ∧ fn.body = some c) ∧ ExtOK P A f q
  mixed : P.follows .mixedOrders = true
  code : ∀ f fn c, A.fn f = true → A.ext f = none → P.funcs[f]? = some fn → fn.body = some c → codeOK A f c = true
  name : ∀ f fn, A.fn f = true → P.funcs[f]? = some fn → (fn.name == "runtime.NumGoroutine") = false
def resU : List Value → Value
  | [u] => u
  | us => .tuple us.toArray
theorem resOne_ok {w0 w : World} {pend : Nat → Nat → Option Box} {gh : Gh} {D : Nat} {g : G} {st : St} {vals : Array Value} (h : Ctx A w0 pend gh D g st.m st.tm vals w) {x : ResultVar} {v : V} (hv : resOne P st x = some v) :
    ∃ u, ((match x with | .tmp t => pure (vals.getD t undef) | .cell a t => do loadVar t (← asAddr (vals.getD a undef)) : Sem Value).run P w = .ok u w) ∧ ∃ t, RV g (.tmp D t) v u := by
  have get : ∀ t, rawT st.tm t ≠ .undef → RV g (.tmp D t) (rawT st.tm t) (vals.getD t undef) := fun t hne => by
    obtain ⟨u, q1, q2, q3⟩ := TR.val (a := { tmps := vals, defers := [] }) h.tr (rawT_get rfl hne)
    have : vals.getD t undef = u := by simpa [Act.eval] using q2
    rw [this]; exact q3
  cases x with
  | tmp t =>
    simp only [resOne] at hv
    cases hv
    refine ⟨_, rfl, t, ?_⟩
    by_cases hne : rawT st.tm t = .undef
    · rw [hne]; trivial
    · exact get t hne
  | cell y t =>
    simp only [resOne] at hv
    split at hv
    · rename_i d b off hp
      split at hv
      · rename_i cs i hlook hi
        split at hv
        · rename_i hs
          have h1 := get y (by rw [hp]; simp)
          rw [hp] at h1
          simp only [RV] at h1
          obtain ⟨blk, e1, e2⟩ := h1
          obtain ⟨_, _, _, l, vals', e, k1, k2, k3, k5, k4⟩ := h.inv.φ _ _ _ e1
          rw [hlook] at k1; cases k1
          have hrel : RVL g (cs.map V.strip) vals'.toList := RVL.mk (by simp [k3]) fun j y u hy hu => by
            rw [List.getElem?_map] at hy
            obtain ⟨z, hz, rfl⟩ := Option.map_eq_some_iff.1 hy
            exact (k4 j z u hz (by simpa using hu)).strip
          have hfl : Flat (cs.map V.strip) := Flat.strips k5
          rw [List.map_take, List.map_drop] at hv
          obtain ⟨u, hu1, hu2⟩ := ofCells_ok (p := .none) ((hrel.drop off).take i.size) ((hfl.drop off).take i.size) hv
          have hrun := run_loadVarB (P := P) (w := w) hi k2 (off := off) (by omega) (v := u) (by
            cases ha : i.agg with
            | true => simp only [ha, if_true] at hu2 ⊢; exact hu2
            | false =>
              simp only [ha, Bool.false_eq_true, if_false] at hu2 ⊢
              have := take0 hu2.1
              rw [List.getElem?_drop] at this
              simpa using this)
          refine ⟨u, ?_, 0, hu1.any (ofCells_strip hv) _⟩
          simp only [e2, asAddr, Sem.run_bind, Sem.run_pure, Result.andThen_ok]
          exact hrun
        · cases hv
      · cases hv
    · cases hv
theorem run_results {w0 w : World} {pend : Nat → Nat → Option Box} {gh : Gh} {D : Nat} {g : G} {st : St} {vals : Array Value} (h : Ctx A w0 pend gh D g st.m st.tm vals w) {fn : Func} {l : List V} (hv : resAll P st fn.results.toList = some l) :
    ∃ us : List Value, (results fn vals).run P w = .ok (resU us) w ∧ us.length = l.length ∧ ∀ (i : Nat) x u, l[i]? = some x → us[i]? = some u → ∃ t, RV g (.tmp D t) x u := by
  have h1 : ∀ (xs : List ResultVar) (l : List V), resAll P st xs = some l → ∃ us : List Value, (xs.mapM fun | .tmp t => pure (vals.getD t undef) | .cell a t => do loadVar t (← asAddr (vals.getD a undef)) : Sem (List Value)).run P w = .ok us w ∧ us.length = l.length ∧ ∀ (i : Nat) x u, l[i]? = some x → us[i]? = some u → ∃ t, RV g (.tmp D t) x u := by
    intro xs
    induction xs with
    | nil => intro l h; simp only [resAll] at h; cases h; exact ⟨[], rfl, rfl, fun i x u h => by simp at h⟩
    | cons x xs ih =>
      intro l hl
      simp only [resAll] at hl
      split at hl
      · rename_i v l' e1 e2
        cases hl
        obtain ⟨u, k1, k2⟩ := resOne_ok h e1
        obtain ⟨us, k3, k4, k5⟩ := ih _ e2
        refine ⟨u :: us, ?_, by simp [k4], fun i y z hy hz => ?_⟩
        · simp only [List.mapM_cons, Sem.run_bind, Sem.run_pure, Result.andThen_ok]
          cases x <;> (simp only at k1 ⊢; rw [k1]; simp only [Result.andThen_ok, k3])
        · cases i with
          | zero => simp at hy hz; subst hy hz; exact k2
          | succ i => exact k5 i y z (by simpa using hy) (by simpa using hz)
      · cases hl
  obtain ⟨us, h2, h3, h4⟩ := h1 _ _ hv
  refine ⟨us, ?_, h3, h4⟩
  have h5 : (fn.results.mapM fun | .tmp t => pure (vals.getD t undef) | .cell a t => do loadVar t (← asAddr (vals.getD a undef)) : Sem (Array Value)).run P w = .ok us.toArray w := by
    rw [← Array.toArray_toList (xs := fn.results), List.mapM_toArray]
    simp only [map_eq_pure_bind, Sem.run_bind, Sem.run_pure, Result.andThen_ok, h2]
  have hres : results fn vals = ((fn.results.mapM fun | .tmp t => pure (vals.getD t undef) | .cell a t => do loadVar t (← asAddr (vals.getD a undef)) : Sem (Array Value)) >>= fun vs => pure (if h : vs.size = 1 then vs[0] else .tuple vs)) := rfl
  rw [hres]
  simp only [Sem.run_bind, h5, Result.andThen_ok]
  clear hv h2 h5 hres h1 h4
  match us with
  | [] => rfl
  | [t] => rfl
  | t :: t' :: ts => rfl
theorem RA_of {F : Fz} : ∀ {l : List C} {cs : List Value}, l.length = cs.length → (∀ (i : Nat) x u, l[i]? = some x → cs[i]? = some u → RC F x u.cells.toList ∧ x.isAgg = aggV u) → RA F l cs
  | [], [], _, _ => rfl
  | [], _ :: _, h, _ => by simp at h
  | _ :: _, [], h, _ => by simp at h
  | x :: l, u :: cs, h, k => ⟨u, cs, rfl, (k 0 x u rfl rfl).1, (k 0 x u rfl rfl).2, RA_of (by simpa using h) fun i y v h1 h2 => k (i + 1) y v (by simpa using h1) (by simpa using h2)⟩
theorem evF_ok (hP : ProgOK P A) : ∀ n, CallOK P A (evF P A n)
  | 0 => ⟨fun _ _ _ _ _ h => by simp [evF] at h, fun _ _ _ _ _ _ h => by simp [evF] at h, fun _ _ _ _ _ _ h => by simp [evF] at h, fun _ _ _ _ _ _ h => by simp [evF] at h, fun _ _ _ _ _ _ h => by simp [evF] at h⟩
  | n + 1 => by
    have ih := evF_ok hP n
    have hlow := evF_low (P := P) (A := A) (n + 1)
    refine ⟨fun ro f vs m q h args w => ?_, hlow.len, fun ro f vs m r m' h hle => low_all (hlow.len _ _ _ _ _ _ h) (hlow.low _ _ _ _ _ _ h _ hle (Nat.le_refl _)), fun ro f vs m r m' h => ?_, fun ro f vs m r m' h w0 pend g w gh vals hi hg hlen hrel hup => ?_⟩
    · obtain ⟨r, m'⟩ := q
      obtain ⟨hA, hcase⟩ := evF_some h
      have hbody : ∃ fn c, P.funcs[f]? = some fn ∧ fn.body = some c := by
        rcases hcase with ⟨q, cs, hq, _⟩ | ⟨hx, fn, c, hf, hc, _⟩
        · exact (hP.ext f q hA hq).1
        · exact ⟨fn, c, hf, hc⟩
      obtain ⟨fn, c, hf, hc⟩ := hbody
      have hn := hP.name f fn hA hf
      simp only [callFunc, Sem.run_bind, run_program, Result.andThen_ok, hf]
      simp [hn, hc]
    · obtain ⟨hA, ⟨q, cs, _, _, _, hu, rfl⟩ | ⟨hx, fn, c, hf, hc, hvl, hfin⟩⟩ := evF_some h
      · exact upTo_le (Nat.zero_le _) hu
      obtain ⟨ex, st, l, fr, h1, h2, h3, h4, h5, h6, h7⟩ := finish_some hfin
      have := hlow.len _ _ _ _ _ _ h
      rwa [this] at h6
    · obtain ⟨hA, ⟨q, cs, hq, rfl, hr, hu, rfl⟩ | ⟨hx, fn, c, hf, hc, hvl, hfin⟩⟩ := evF_some h
      · have hra : RA g.F cs vals.toList := by
          refine RA_of (by simpa using hlen) fun i x u hxi hui => ?_
          have := hrel i (.c x) u (by rw [List.getElem?_map, hxi]; rfl) (by simpa using hui)
          simpa only [RV] using this
        refine ((hP.ext f q hA hq).2 cs r hr w0 pend g m' w vals hi hra).mono ?_
        rintro e w' ⟨u, g', h1, h2, h3, h4⟩
        exact ⟨u, g', h1, h2, hg.ext h3 (fun h => h) (fun _ _ _ h => h), h4⟩
      obtain ⟨ex, st, l, fr, h1, h2, h3, h4, h5, h6, h7⟩ := finish_some hfin
      have hmlen := hlow.len _ _ _ _ _ _ h
      refine calls_of_wp hf hc ?_
      have hpD : ∀ t, pend m.length t = none := fun t => by
        cases hb : pend m.length t with
        | none => rfl
        | some b => have := look_lt (hi.pend _ _ _ hb).2; omega
      have hlook : ∀ d t, look ([] :: m) d t = look m d t := fun d t => by
        simp only [look]
        split
        · rename_i e
          cases hq : look m d t with
          | none => rfl
          | some b => have := look_lt hq; omega
        · rfl
      have hinv : Inv A w0 pend g ([] :: m) w := ⟨hi.laid, hi.below, hi.glob, hi.F, hi.M, fun d t b hb => by
        obtain ⟨c1, c2, c3, l, cs, e, k1, k2⟩ := hi.φ _ _ _ hb
        exact ⟨c1, c2, c3, l, cs, e, by rw [hlook]; exact k1, k2⟩, hi.inj, hi.o, fun d t l hl => by rw [hlook] at hl; exact hi.up _ _ _ hl, fun d t l hl => by rw [hlook]; exact hi.pend _ _ _ hl⟩
      have hctx : After A w0 pend gh m.length [] ⟨vs ++ List.replicate (fn.ntmps - vs.length) .undef, [] :: m⟩ { tmps := vals ++ Array.replicate (fn.ntmps - vals.size) undef, defers := [] } w := by
        refine ⟨rfl, g, ⟨hinv, hg, ⟨by simp [hlen], fun t x u hx hu => ?_, ?_⟩, by simp⟩⟩
        · by_cases ht : t < vs.length
          · rw [List.getElem?_append_left ht] at hx
            rw [Array.getElem?_append_left (by omega)] at hu
            exact hrel t x u hx hu
          · rw [List.getElem?_append_right (by omega), List.getElem?_replicate] at hx
            split at hx
            · cases hx; trivial
            · cases hx
        · rw [upToL_mem]
          intro x hx
          rcases List.mem_append.1 hx with hx | hx
          · exact upTo_le (by omega) ((upToL_mem.1 hup) x hx)
          · rw [List.eq_of_mem_replicate hx]; rfl
      refine evC_ok ih hP.mixed hpD c (hP.code f fn c hA hx hf hc) _ ex st _ _ h1 hctx _ fun a' w' hA' => ?_
      obtain ⟨hd, g', hx⟩ := hA'
      have key : a'.defers = [] ∧ ∃ v, (results fn a'.tmps).run P w' = .ok v w' ∧ ∃ u g', Ending.returned v = .returned u ∧ Inv A w0 pend g' m' w' ∧ GHR g' m.length gh ∧ RV g' .res r u := by
        have hx1 := hx.inv
        rw [h4] at hx1
        have hm'D : m'.length = m.length := hmlen
        have hcut : Inv A w0 pend (g'.cut m.length []) ([] :: m') w' := hx1.cut hm'D hpD (fun t => by simp [lk]) (fun t b hb => by simp [lk] at hb)
        have hpop : Inv A w0 pend (g'.cut m.length []) m' w' := by
          have hlook' : ∀ d t l, look m' d t = some l → look ([] :: m') d t = some l := fun d t l hl => by
            have := look_lt hl
            rw [look_tail _ _ _ _ this]; exact hl
          have hlook2 : ∀ d t l, look ([] :: m') d t = some l → look m' d t = some l := fun d t l hl => by
            simp only [look] at hl
            split at hl
            · simp [lk] at hl
            · exact hl
          exact ⟨hcut.laid, hcut.below, hcut.glob, hcut.F, hcut.M, fun d t b hb => by
            obtain ⟨c1, c2, c3, l, cs, e, k1, k2⟩ := hcut.φ _ _ _ hb
            exact ⟨c1, c2, c3, l, cs, e, hlook2 _ _ _ k1, k2⟩, hcut.inj, hcut.o, fun d t l hl => hcut.up _ _ _ (hlook' _ _ _ hl), fun d t l hl => ⟨(hcut.pend _ _ _ hl).1, hlook2 _ _ _ (hcut.pend _ _ _ hl).2⟩⟩
        obtain ⟨us, hrun, hul, hur⟩ := run_results hx h3
        have hres : ∃ u p, u = resU us ∧ RV g' p r u ∧ (∀ d t i, p ≠ .cell d t i) ∧ p ≠ .none ∧ (∀ k t, k < m.length → ¬ (Pl.tmp k t = p)) := by
          match l, us, hul, hur, h5 with
          | [x], [u], _, hur, h5 =>
            simp only [resV] at h5
            subst h5
            obtain ⟨t, ht⟩ := hur 0 _ u rfl rfl
            exact ⟨_, .tmp m.length t, rfl, ht, by simp, by simp, fun k t' hk => by simp; omega⟩
          | [], [], _, _, h5 =>
            simp only [resV] at h5
            subst h5
            refine ⟨_, .res, rfl, ?_, by simp, by simp, fun k t' hk => by simp⟩
            simp only [RV]
            exact ⟨_, rfl, by simp only [List.map_nil, RVL]⟩
          | x :: x' :: l, u :: u' :: us, hul, hur, h5 =>
            simp only [resV] at h5
            subst h5
            refine ⟨_, .res, rfl, ?_, by simp, by simp, fun k t' hk => by simp⟩
            simp only [RV]
            refine ⟨_, rfl, RVL.mk (by simpa using hul.symm) fun i y z hyi hz => ?_⟩
            simp only [List.toList_toArray] at hz
            rw [List.getElem?_map] at hyi
            obtain ⟨s, hs, rfl⟩ := Option.map_eq_some_iff.1 hyi
            obtain ⟨t, ht⟩ := hur i s z hs hz
            exact ht.strip
        obtain ⟨u, p, hu, hr, hp1, hp2, hp3⟩ := hres
        have hr2 : RV (g'.cut m.length []) p r u := hr.low (g := g') (g' := g'.cut m.length []) (D := m.length) rfl rfl (fun d t b hb hd => cut_of hb fun e => by omega) (by rwa [hm'D] at h6)
        obtain ⟨g2, q1, q2, q3⟩ := tip_move hpop (q := .res) hr2 hp1 hp2
        subst hu
        exact ⟨hd, _, hrun, _, g2, rfl, q2, (hx.gh.cut (ks := [])).ext q1 (fun e => hp2 e.symm) (fun k t hk => hp3 k t hk), q3⟩
      rcases h2 with rfl | rfl
      · exact key
      · exact key
end Go.Eng
