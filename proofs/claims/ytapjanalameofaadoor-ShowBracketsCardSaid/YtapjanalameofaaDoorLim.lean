-- own work: an evaluator of the program's code, and what it answers
import Derived.Test.YtapjanalameofaaDoorEngB
/- The machine without fuel: what it answers with any fuel. -/
set_option linter.unusedVariables false
set_option linter.unusedSimpArgs false
set_option linter.unusedSectionVars false
namespace Go.Eng
variable {P : Program} {A : Ann} {ro f k : Nat}
/-- what depends upon one call at most -/
def Asks (q : CallF → Option (V × Mem)) : Prop := ∃ ro g vs m, ∃ F : Option (V × Mem) → Option (V × Mem), (∀ r, F none = some r → ∀ x, F x = some r) ∧ ∀ cl, q cl = F (cl ro g vs m)
theorem asks_const {x : Option (V × Mem)} : Asks (fun _ => x) := ⟨0, 0, [], [], fun _ => x, fun r h _ => h, fun _ => rfl⟩
theorem asks_callQ {strict : Bool} {g : FuncId} {vs : List V} {m : Mem} : Asks (fun cl => callQ cl ro strict g vs m) := by
  unfold callQ
  cases strict with
  | true => exact ⟨m.length, g, vs, m, fun q => match q with | some (r, _) => some (r, m) | none => none, fun r h => by simp at h, fun cl => by simp only [if_true]; cases cl m.length g vs m <;> rfl⟩
  | false => exact ⟨ro, g, vs, m, fun q => q, fun r h => by simp at h, fun cl => rfl⟩
theorem core_asks {draw strict : Bool} {o : Oper} {rd rt : Operand → Option V} {m : Mem} : Asks (fun cl => core P A cl ro f draw strict o rd rt m) := by
  unfold core
  cases ho : o.op <;> simp only [ho] <;> try exact asks_const
  case call c =>
    split
    · exact asks_const
    · split
      · exact asks_const
      · split
        · exact asks_callQ
        · exact asks_const
    · split
      · exact asks_callQ
      · exact asks_callQ
      · exact asks_const
    · exact asks_const
    · exact asks_const
structure CallLe (cl cl' : CallF) : Prop where
  le : ∀ ro g vs m r, cl ro g vs m = some r → cl' ro g vs m = some r
theorem Asks.le {q : CallF → Option (V × Mem)} (h : Asks q) {cl cl' : CallF} (hl : CallLe cl cl') {r : V × Mem} (e : q cl = some r) : q cl' = some r := by
  obtain ⟨ro, g, vs, m, F, h1, h2⟩ := h
  rw [h2] at e ⊢
  cases hc : cl ro g vs m with
  | none => rw [hc] at e; exact h1 _ e _
  | some x => rw [hl.le _ _ _ _ _ hc, ← hc]; exact e
/-- calls with more and more fuel, and their limit -/
structure Lim (cls : Nat → CallF) (cl : CallF) : Prop where
  le : ∀ k, CallLe (cls k) (cls (k + 1))
  ex : ∀ ro g vs m r, cl ro g vs m = some r → ∃ k, cls k ro g vs m = some r
theorem Lim.mono {cls : Nat → CallF} {cl : CallF} (h : Lim cls cl) {k k' : Nat} (hk : k ≤ k') : CallLe (cls k) (cls k') := by
  induction hk with
  | refl => exact ⟨fun _ _ _ _ _ h => h⟩
  | step _ ih => exact ⟨fun _ _ _ _ _ e => (h.le _).le _ _ _ _ _ (ih.le _ _ _ _ _ e)⟩
theorem Asks.lim {q : CallF → Option (V × Mem)} (h : Asks q) {cls : Nat → CallF} {cl : CallF} (hl : Lim cls cl) {r : V × Mem} (e : q cl = some r) : ∃ K, ∀ k, K ≤ k → q (cls k) = some r := by
  have h' := h
  obtain ⟨ro, g, vs, m, F, h1, h2⟩ := h
  rw [h2] at e
  cases hc : cl ro g vs m with
  | none => rw [hc] at e; exact ⟨0, fun k _ => by rw [h2]; exact h1 _ e _⟩
  | some x =>
    obtain ⟨K, hK⟩ := hl.ex _ _ _ _ _ hc
    exact ⟨K, fun k hk => by rw [h2, (hl.mono hk).le _ _ _ _ _ hK, ← hc]; exact e⟩
theorem step_eq {cl : CallF} {draw : Bool} {ops : Array Oper} {o : Oper} {st : St} : step P A cl ro f draw ops o st = match wantA ops o st.tm with
    | some true => if (draw && !chkO A f o (rdOf A st.tm) st.m.length) = true then none else (core P A cl ro f draw (draw && !loud A f o) o (rdOf A st.tm) (raw A st.tm) st.m).map fun q => ⟨putT (stripT st.tm (takes A f o)) o.dst q.1, q.2⟩
    | some false => some ⟨putT st.tm o.dst (.tup []), st.m⟩
    | none => none := by
  unfold step
  cases wantA ops o st.tm with
  | none => rfl
  | some q => cases q with
    | false => rfl
    | true =>
      simp only
      by_cases hk : (draw && !chkO A f o (rdOf A st.tm) st.m.length) = true
      · rw [if_pos hk, if_pos hk]
      rw [if_neg hk, if_neg hk]
      cases core P A cl ro f draw (draw && !loud A f o) o (rdOf A st.tm) (raw A st.tm) st.m with | none => rfl | some q => rfl
theorem step_le {cl cl' : CallF} (hl : CallLe cl cl') {draw : Bool} {ops : Array Oper} {o : Oper} {st st' : St} (h : step P A cl ro f draw ops o st = some st') : step P A cl' ro f draw ops o st = some st' := by
  rw [step_eq] at h ⊢
  cases hw : wantA ops o st.tm with
  | none => rw [hw] at h; exact h
  | some q => cases q with
    | false => rw [hw] at h; exact h
    | true =>
      rw [hw] at h
      simp only at h ⊢
      by_cases hk : (draw && !chkO A f o (rdOf A st.tm) st.m.length) = true
      · rw [if_pos hk] at h; cases h
      rw [if_neg hk] at h ⊢
      obtain ⟨q, hq, e⟩ := Option.map_eq_some_iff.1 h
      rw [core_asks.le hl hq, ← e]; rfl
theorem steps_le {cl cl' : CallF} (hl : CallLe cl cl') {draw : Bool} {ops : Array Oper} : ∀ {l : List Oper} {st st' : St}, steps P A cl ro f draw ops l st = some st' → steps P A cl' ro f draw ops l st = some st'
  | [], _, _, h => h
  | o :: l, st, st', h => by
    simp only [steps] at h ⊢
    split at h
    · rename_i h1; rw [step_le hl h1]; exact steps_le hl h
    · cases h
theorem step_lim {cls : Nat → CallF} {cl : CallF} (hl : Lim cls cl) {draw : Bool} {ops : Array Oper} {o : Oper} {st st' : St} (h : step P A cl ro f draw ops o st = some st') : ∃ K, ∀ k, K ≤ k → step P A (cls k) ro f draw ops o st = some st' := by
  rw [step_eq] at h
  cases hw : wantA ops o st.tm with
  | none => rw [hw] at h; cases h
  | some q => cases q with
    | false => exact ⟨0, fun k _ => by rw [step_eq, hw]; rw [hw] at h; exact h⟩
    | true =>
      rw [hw] at h
      simp only at h
      by_cases hk : (draw && !chkO A f o (rdOf A st.tm) st.m.length) = true
      · rw [if_pos hk] at h; cases h
      rw [if_neg hk] at h
      obtain ⟨q, hq, e⟩ := Option.map_eq_some_iff.1 h
      obtain ⟨K, hK⟩ := core_asks.lim hl hq
      exact ⟨K, fun k hk2 => by rw [step_eq, hw]; simp only; rw [if_neg hk, hK k hk2, ← e]; rfl⟩
theorem steps_lim {cls : Nat → CallF} {cl : CallF} (hl : Lim cls cl) {draw : Bool} {ops : Array Oper} : ∀ {l : List Oper} {st st' : St}, steps P A cl ro f draw ops l st = some st' → ∃ K, ∀ k, K ≤ k → steps P A (cls k) ro f draw ops l st = some st'
  | [], _, _, h => ⟨0, fun _ _ => h⟩
  | o :: l, st, st', h => by
    simp only [steps] at h ⊢
    split at h
    · rename_i st1 h1
      obtain ⟨K1, k1⟩ := step_lim hl h1
      obtain ⟨K2, k2⟩ := steps_lim hl h
      exact ⟨K1 + K2, fun k hk => by rw [k1 k (by omega)]; exact k2 k (by omega)⟩
    · cases h
theorem region_lim {cls : Nat → CallF} {cl : CallF} (hl : Lim cls cl) {draw : Bool} {ops : Array Oper} {st st' : St} (h : region P A cl ro f draw ops st = some st') : ∃ K, ∀ k, K ≤ k → region P A (cls k) ro f draw ops st = some st' := by
  unfold region at h ⊢
  cases draw with
  | false => exact steps_lim hl h
  | true =>
    simp only [if_true] at h ⊢
    cases hm : st.m with
    | nil => rw [hm] at h; cases h
    | cons fr r =>
      rw [hm] at h
      simp only at h ⊢
      cases hy : layAll P (lays ops.toList) fr with
      | none => rw [hy] at h; cases h
      | some fr' => rw [hy] at h; exact steps_lim hl h
theorem region_le {cl cl' : CallF} (hl : CallLe cl cl') {draw : Bool} {ops : Array Oper} {st st' : St} (h : region P A cl ro f draw ops st = some st') : region P A cl' ro f draw ops st = some st' := by
  unfold region at h ⊢
  cases draw with
  | false => exact steps_le hl h
  | true =>
    simp only [if_true] at h ⊢
    cases hm : st.m with
    | nil => rw [hm] at h; cases h
    | cons fr r =>
      rw [hm] at h
      simp only at h ⊢
      cases hy : layAll P (lays ops.toList) fr with
      | none => rw [hy] at h; cases h
      | some fr' => rw [hy] at h; exact steps_le hl h
theorem loop_le {b b' : St → Option (Ex × St)} (hb : ∀ st r, b st = some r → b' st = some r) : ∀ {n n' : Nat} {st : St} {r : Ex × St}, n ≤ n' → loop b n st = some r → loop b' n' st = some r
  | 0, _, _, _, _, h => by simp [loop] at h
  | n + 1, 0, _, _, hn, _ => by omega
  | n + 1, n' + 1, st, r, hn, h => by
    simp only [loop] at h ⊢
    split at h
    · rename_i st1 h1
      rw [hb _ _ h1]
      simp only
      split at h
      · rename_i st2 h2; exact loop_le hb (by omega) h
      · cases h
    · rename_i hne
      rw [hb _ _ h]
      split
      · rename_i st1 e; cases e; exact absurd h (hne st1)
      · rfl
theorem evC_le {cl cl' : CallF} (hl : CallLe cl cl') {k k' : Nat} (hk : k ≤ k') : ∀ {c : Code} {st : St} {r : Ex × St}, evC P A cl ro f k c st = some r → evC P A cl' ro f k' c st = some r
  | .skip, _, _, h => h
  | .label _, _, _, h => h
  | .exit _, _, _, h => h
  | .ret, _, _, h => h
  | .goto _, _, _, h => by simp only [evC] at h; cases h
  | .refuse _, _, _, h => by simp only [evC] at h; cases h
  | .scope _, _, _, h => by simp only [evC] at h; cases h
  | .rangeFunc .., _, _, h => by simp only [evC] at h; cases h
  | .region id ops draw, st, r, h => by
    simp only [evC] at h ⊢
    obtain ⟨s, hs, e⟩ := Option.map_eq_some_iff.1 h
    rw [region_le hl hs, ← e]; rfl
  | .seq x y, st, r, h => by
    simp only [evC] at h ⊢
    split at h
    · rename_i st1 h1; rw [evC_le hl hk h1]; exact evC_le hl hk h
    · rename_i hne
      rw [evC_le hl hk h]
      split
      · rename_i st1 e; cases e; exact absurd h (hne st1)
      · rfl
  | .cond c x y, st, r, h => by
    simp only [evC] at h ⊢
    cases hq : asBool? (rdOf A st.tm c) with
    | none => rw [hq] at h; cases h
    | some q => cases q with
      | true => rw [hq] at h; exact evC_le hl hk (c := x) h
      | false => rw [hq] at h; exact evC_le hl hk (c := y) h
  | .block id b, st, r, h => by
    simp only [evC] at h ⊢
    split at h
    · rename_i id' st1 h1; rw [evC_le hl hk h1]; exact h
    · rename_i hne
      rw [evC_le hl hk h]
      split
      · rename_i id' st1 e; cases e; exact absurd h (hne id' st1)
      · rfl
  | .loop b, st, r, h => by
    simp only [evC] at h ⊢
    exact loop_le (fun st r e => evC_le hl hk e) hk h
open Classical in
/-- a loop with all fuel -/
noncomputable def loopW (b : St → Option (Ex × St)) (st : St) : Option (Ex × St) :=
  if h : ∃ n, (loop b n st).isSome then loop b h.choose st else none
theorem loopW_some {b : St → Option (Ex × St)} {st : St} {r : Ex × St} : loopW b st = some r ↔ ∃ n, loop b n st = some r := by
  unfold loopW
  constructor
  · intro h
    split at h
    · exact ⟨_, h⟩
    · cases h
  · rintro ⟨n, h⟩
    have hex : ∃ n, (loop b n st).isSome := ⟨n, by rw [h]; rfl⟩
    rw [dif_pos hex]
    have h2 := hex.choose_spec
    obtain ⟨r', h3⟩ := Option.isSome_iff_exists.1 h2
    have e1 := loop_le (fun _ _ e => e) (Nat.le_max_left n hex.choose) h
    have e2 := loop_le (fun _ _ e => e) (Nat.le_max_right n hex.choose) h3
    rw [h3, ← e2, e1]
theorem loopW_eq {b : St → Option (Ex × St)} {st : St} : loopW b st = match b st with
    | some (.n, st1) => match clean st st1 with | some st2 => loopW b st2 | none => none
    | r => r := by
  apply Option.ext
  intro r
  rw [loopW_some]
  constructor
  · rintro ⟨n, h⟩
    cases n with
    | zero => simp [loop] at h
    | succ n =>
      simp only [loop] at h
      split at h
      · rename_i st1 h1
        rw [h1]
        simp only
        split at h
        · rename_i st2 h2; rw [h2]; exact loopW_some.2 ⟨n, h⟩
        · cases h
      · rename_i hne
        split
        · rename_i st1 e; exact absurd e (hne st1)
        · exact h
  · intro h
    split at h
    · rename_i st1 h1
      split at h
      · rename_i st2 h2
        obtain ⟨n, hn⟩ := loopW_some.1 h
        exact ⟨n + 1, by simp only [loop, h1, h2]; exact hn⟩
      · cases h
    · rename_i hne
      refine ⟨1, ?_⟩
      simp only [loop]
      exact h
/-- code with all fuel -/
noncomputable def evW (P : Program) (A : Ann) (cl : CallF) (ro f : Nat) : Code → St → Option (Ex × St)
  | .skip, st => some (.n, st)
  | .label _, st => some (.n, st)
  | .region _ ops draw, st => (region P A cl ro f draw ops st).map fun s => (.n, s)
  | .seq a b, st => match evW P A cl ro f a st with
    | some (.n, st1) => evW P A cl ro f b st1
    | r => r
  | .cond c a b, st => match asBool? (rdOf A st.tm c) with
    | some q => if q then evW P A cl ro f a st else evW P A cl ro f b st
    | none => none
  | .block id b, st => match evW P A cl ro f b st with
    | some (.exit id', st1) => if id' = id then some (.n, st1) else some (.exit id', st1)
    | r => r
  | .loop b, st => loopW (evW P A cl ro f b) st
  | .exit id, st => some (.exit id, st)
  | .ret, st => some (.ret, st)
  | _, _ => none
theorem evW_lim {cls : Nat → CallF} {cl : CallF} (hl : Lim cls cl) : ∀ {c : Code} {st : St} {r : Ex × St}, evW P A cl ro f c st = some r → ∃ K, ∀ k, K ≤ k → evC P A (cls k) ro f k c st = some r
  | .skip, _, _, h => ⟨0, fun _ _ => h⟩
  | .label _, _, _, h => ⟨0, fun _ _ => h⟩
  | .exit _, _, _, h => ⟨0, fun _ _ => h⟩
  | .ret, _, _, h => ⟨0, fun _ _ => h⟩
  | .goto _, _, _, h => by simp only [evW] at h; cases h
  | .refuse _, _, _, h => by simp only [evW] at h; cases h
  | .scope _, _, _, h => by simp only [evW] at h; cases h
  | .rangeFunc .., _, _, h => by simp only [evW] at h; cases h
  | .region id ops draw, st, r, h => by
    simp only [evW] at h
    obtain ⟨s, hs, e⟩ := Option.map_eq_some_iff.1 h
    obtain ⟨K, hK⟩ := region_lim hl hs
    exact ⟨K, fun k hk => by simp only [evC]; rw [hK k hk, ← e]; rfl⟩
  | .seq x y, st, r, h => by
    simp only [evW] at h
    split at h
    · rename_i st1 h1
      obtain ⟨K1, k1⟩ := evW_lim hl h1
      obtain ⟨K2, k2⟩ := evW_lim hl h
      exact ⟨K1 + K2, fun k hk => by simp only [evC]; rw [k1 k (by omega)]; exact k2 k (by omega)⟩
    · rename_i hne
      obtain ⟨K, hK⟩ := evW_lim hl h
      refine ⟨K, fun k hk => ?_⟩
      simp only [evC]
      rw [hK k hk]
      split
      · rename_i st1 e; cases e; exact absurd h (hne st1)
      · rfl
  | .cond c x y, st, r, h => by
    simp only [evW] at h
    split at h
    · rename_i q hq
      split at h
      · rename_i q1
        obtain ⟨K, hK⟩ := evW_lim hl h
        exact ⟨K, fun k hk => by simp only [evC, hq]; rw [if_pos q1]; exact hK k hk⟩
      · rename_i q1
        obtain ⟨K, hK⟩ := evW_lim hl h
        exact ⟨K, fun k hk => by simp only [evC, hq]; rw [if_neg q1]; exact hK k hk⟩
    · cases h
  | .block id b, st, r, h => by
    simp only [evW] at h
    split at h
    · rename_i id' st1 h1
      obtain ⟨K, hK⟩ := evW_lim hl h1
      exact ⟨K, fun k hk => by simp only [evC]; rw [hK k hk]; exact h⟩
    · rename_i hne
      obtain ⟨K, hK⟩ := evW_lim hl h
      refine ⟨K, fun k hk => ?_⟩
      simp only [evC]
      rw [hK k hk]
      split
      · rename_i id' st1 e; cases e; exact absurd h (hne id' st1)
      · rfl
  | .loop b, st, r, h => by
    simp only [evW] at h
    obtain ⟨n, hn⟩ := loopW_some.1 h
    have key : ∀ n st r, loop (evW P A cl ro f b) n st = some r → ∃ K, ∀ k, K ≤ k → ∀ N, n ≤ N → loop (evC P A (cls k) ro f k b) N st = some r := by
      intro n
      induction n with
      | zero => intro st r h; simp [loop] at h
      | succ n ih =>
        intro st r h
        simp only [loop] at h
        split at h
        · rename_i st1 h1
          obtain ⟨K1, k1⟩ := evW_lim hl h1
          split at h
          · rename_i st2 h2
            obtain ⟨K2, k2⟩ := ih _ _ h
            refine ⟨K1 + K2, fun k hk N hN => ?_⟩
            obtain ⟨N', rfl⟩ : ∃ N', N = N' + 1 := ⟨N - 1, by omega⟩
            simp only [loop]
            rw [k1 k (by omega)]
            simp only [h2]
            exact k2 k (by omega) N' (by omega)
          · cases h
        · rename_i hne
          obtain ⟨K, hK⟩ := evW_lim hl h
          refine ⟨K, fun k hk N hN => ?_⟩
          obtain ⟨N', rfl⟩ : ∃ N', N = N' + 1 := ⟨N - 1, by omega⟩
          simp only [loop]
          rw [hK k hk]
          split
          · rename_i st1 e; cases e; exact absurd h (hne st1)
          · rfl
    obtain ⟨K, hK⟩ := key _ _ _ hn
    exact ⟨K + n, fun k hk => by simp only [evC]; exact hK k (by omega) k (by omega)⟩
theorem finish_le {fn : Func} {r r' : Option (Ex × St)} (h : ∀ x, r = some x → r' = some x) {v : V × Mem} (e : finish P fn r = some v) : finish P fn r' = some v := by
  obtain ⟨v, m⟩ := v
  obtain ⟨ex, st, l, fr, h1, h2, h3, h4, h5, h6, h7⟩ := finish_some e
  rw [h _ h1, ← h1]; exact e
theorem evF_le : ∀ n, CallLe (evF P A n) (evF P A (n + 1))
  | 0 => ⟨fun _ _ _ _ _ h => by simp [evF] at h⟩
  | n + 1 => by
    have ih := evF_le n
    refine ⟨fun ro g vs m r h => ?_⟩
    have h' := h
    obtain ⟨r, m'⟩ := r
    simp only [evF] at h ⊢
    split at h
    · cases h
    · rename_i hA
      rw [if_neg hA]
      cases hx : A.ext g with
      | some q => rw [hx] at h; exact h
      | none =>
        rw [hx] at h
        simp only at h ⊢
        cases hf : P.funcs[g]? with
        | none => rw [hf] at h; exact h
        | some fn =>
          rw [hf] at h
          simp only at h ⊢
          cases hc : fn.body with
          | none => rw [hc] at h; exact h
          | some c =>
            rw [hc] at h
            simp only at h ⊢
            split at h
            · rename_i hl
              rw [if_pos hl]
              exact finish_le (fun x e => evC_le ih (Nat.le_succ n) e) h
            · cases h
open Classical in
noncomputable def evL (P : Program) (A : Ann) : CallF := fun ro g vs m =>
  if h : ∃ n, (evF P A n ro g vs m).isSome then evF P A h.choose ro g vs m else none
theorem evL_some {g : Nat} {vs : List V} {m : Mem} {r : V × Mem} : evL P A ro g vs m = some r ↔ ∃ n, evF P A n ro g vs m = some r := by
  have hmono : ∀ {k k'}, k ≤ k' → CallLe (evF P A k) (evF P A k') := fun {k k'} hk => by
    induction hk with
    | refl => exact ⟨fun _ _ _ _ _ h => h⟩
    | step _ ih => exact ⟨fun _ _ _ _ _ e => (evF_le _).le _ _ _ _ _ (ih.le _ _ _ _ _ e)⟩
  unfold evL
  constructor
  · intro h
    split at h
    · exact ⟨_, h⟩
    · cases h
  · rintro ⟨n, h⟩
    have hex : ∃ n, (evF P A n ro g vs m).isSome := ⟨n, by rw [h]; rfl⟩
    rw [dif_pos hex]
    obtain ⟨r', h3⟩ := Option.isSome_iff_exists.1 hex.choose_spec
    have e1 := (hmono (Nat.le_max_left n hex.choose)).le _ _ _ _ _ h
    have e2 := (hmono (Nat.le_max_right n hex.choose)).le _ _ _ _ _ h3
    rw [h3, ← e2, e1]
theorem evL_lim : Lim (evF P A) (evL P A) := ⟨evF_le, fun _ _ _ _ _ h => evL_some.1 h⟩
/-- a function by its code -/
theorem evL_of {g : Nat} {vs : List V} {m : Mem} {r : V × Mem} {fn : Func} {c : Code} (hA : A.fn g = true) (hx : A.ext g = none) (hf : P.funcs[g]? = some fn) (hc : fn.body = some c) (hl : vs.length ≤ fn.ntmps)
    (h : finish P fn (evW P A (evL P A) ro g c ⟨vs ++ List.replicate (fn.ntmps - vs.length) .undef, [] :: m⟩) = some r) : evL P A ro g vs m = some r := by
  obtain ⟨v, m'⟩ := r
  obtain ⟨ex, st, ls, fr, h1, h2, h3, h4, h5, h6, h7⟩ := finish_some h
  obtain ⟨K, hK⟩ := evW_lim evL_lim h1
  refine evL_some.2 ⟨K + 1, ?_⟩
  simp only [evF]
  rw [if_neg (by simp [hA]), hx]
  simp only [hf, hc, hl, if_true]
  rw [hK K (Nat.le_refl _), ← h1]; exact h
/-- a function told by hand -/
theorem evL_ext {g : Nat} {cs : List C} {m : Mem} {r : V} {q : List C → Option V} (hA : A.fn g = true) (hx : A.ext g = some q) (hr : q cs = some r) (hu : r.upTo 0 = true) : evL P A ro g (cs.map .c) m = some (r, m) := by
  refine evL_some.2 ⟨1, ?_⟩
  simp only [evF]
  rw [if_neg (by simp [hA]), hx]
  have h1 : (cs.map V.c).all V.isC = true := by simp [V.isC]
  have h2 : (cs.map V.c).map V.toC = cs := by rw [List.map_map]; exact List.map_id'' (fun _ => rfl) cs
  simp only [h1, if_true, h2, hr, hu]
theorem evL_ok (hP : ProgOK P A) : CallOK P A (evL P A) :=
  ⟨fun ro f vs m q h => by obtain ⟨n, h⟩ := evL_some.1 h; exact (evF_ok hP n).fn _ _ _ _ _ h,
   fun ro f vs m r m' h => by obtain ⟨n, h⟩ := evL_some.1 h; exact (evF_ok hP n).len _ _ _ _ _ _ h,
   fun ro f vs m r m' h => by obtain ⟨n, h⟩ := evL_some.1 h; exact (evF_ok hP n).ro _ _ _ _ _ _ h,
   fun ro f vs m r m' h => by obtain ⟨n, h⟩ := evL_some.1 h; exact (evF_ok hP n).up _ _ _ _ _ _ h,
   fun ro f vs m r m' h => by obtain ⟨n, h⟩ := evL_some.1 h; exact (evF_ok hP n).call _ _ _ _ _ _ h⟩
end Go.Eng
