-- own work: an evaluator of the program's code, and what it answers
import Derived.Test.YtjmbdejejlcklaaDoorTab
set_option maxRecDepth 100000
set_option linter.unusedVariables false
set_option linter.unusedSimpArgs false
namespace Go.Eng
open Go Go.Proofs
set_option maxHeartbeats 1000000 in
theorem f50_ev (v : Va) (nm : ByteArray) (ro : Nat) (m : Mem) : evL Tryd.prog An ro 50 [.c (encV v), .c (.fp [.v (.string nm)])] m = some (.c (.v (.bool (hasName nm v))), m) := by
  refine evL_by (n := 8) (by kernel_rfl) rfl fn50 rfl rfl rfl rfl ?_
  simp only [go_sem, ↓reduceIte, hasName]
set_option maxHeartbeats 1000000 in
theorem f49_ev (vs : List Va) (nm : ByteArray) (hl : vs.length ≤ maxLen) (ro : Nat) (m : Mem) :
    evL Tryd.prog An ro 49 [.c (.sl (vs.map encV)), .c (.fn (.func 50) [.fp [.v (.string nm)]])] m = some (.c (.v (.int .i64 (if idx (hasName nm) vs < vs.length then (idx (hasName nm) vs : Int) else -1))), m) := by
  rw [maxLen_eq] at hl
  refine evL_by (n := 19) (by kernel_rfl) rfl fn49 rfl rfl rfl rfl ?_
  simp only [go_sem, ↓reduceIte]
  generalize hL : loopW _ _ = L
  have hle := idx_le (hasName nm) vs
  obtain ⟨i, h1, hE, rfl⟩ := loopW_at hL (fun i : Nat => [(8, .c (.v (.int .i64 i)))]) (fun _ => [] :: m) (fun i => i ≤ idx (hasName nm) vs) (fun i => i = idx (hasName nm) vs) (fun i => vs.length - i) 0 rfl rfl (by omega) (by
    rintro i h1 hE
    obtain ⟨x, hx⟩ : ∃ x, vs[i]? = some x := ⟨_, List.getElem?_eq_getElem (by omega)⟩
    have c1 : decide ((i : Int) < (vs.length : Int)) = true := dec_t (by omega)
    have c3 : IntKind.i64.wrap ((i : Int) + 1) = ((i + 1 : Nat) : Int) := wrap64 (by omega) (by omega)
    have c2 := idx_not (hasName nm) vs i x (by omega) hx
    refine ⟨i + 1, by omega, by omega, ?_⟩
    rw [round_go]
    simp only [go_sem, ↓reduceIte, c1, c2, c3, hx, f50_ev])
  clear hL
  subst hE
  rw [loopW_go]
  by_cases hi : idx (hasName nm) vs < vs.length
  · obtain ⟨x, hx⟩ : ∃ x, vs[idx (hasName nm) vs]? = some x := ⟨_, List.getElem?_eq_getElem hi⟩
    have c1 : decide ((idx (hasName nm) vs : Int) < (vs.length : Int)) = true := dec_t (by omega)
    have c2 := idx_is _ _ x hx
    simp only [go_sem, ↓reduceIte, c1, c2, hx, f50_ev, if_pos hi]
  · have c1 : decide ((idx (hasName nm) vs : Int) < (vs.length : Int)) = false := dec_f (by omega)
    simp only [go_sem, ↓reduceIte, c1, if_neg hi]
def sortOf (vs : List Va) (nm : ByteArray) : Option ByteArray := (vs[idx (hasName nm) vs]?).map Va.so
def encO (o : Option ByteArray) : List V := match o with | some s => [.c (.v (.string s)), .c (.v (.bool true))] | none => [.c (.v (.string ByteArray.empty)), .c (.v (.bool false))]
set_option maxHeartbeats 1000000 in
theorem f48_ev (vs : List Va) (nm : ByteArray) (hl : vs.length ≤ maxLen) (ro : Nat) (m : Mem) :
    evL Tryd.prog An ro 48 [.c (.v (.string nm)), .c (.fp [.sl (vs.map encV)])] m = some (.tup (encO (sortOf vs nm)), m) := by
  refine evL_by (n := 16) (by kernel_rfl) rfl fn48 rfl rfl rfl rfl ?_
  by_cases hi : idx (hasName nm) vs < vs.length
  · obtain ⟨x, hx⟩ : ∃ x, vs[idx (hasName nm) vs]? = some x := ⟨_, List.getElem?_eq_getElem hi⟩
    have c1 : decide ((idx (hasName nm) vs : Int) < 0) = false := dec_f (by omega)
    simp only [go_sem, ↓reduceIte, f49_ev _ _ hl, if_pos hi, c1, hx, sortOf, encO]
  · have hx : vs[idx (hasName nm) vs]? = none := List.getElem?_eq_none (by omega)
    simp only [go_sem, ↓reduceIte, f49_ev _ _ hl, if_neg hi, hx, sortOf, encO, Int.reduceNeg, Int.reduceLT, decide_true, Option.map_none]
def hasF (nm : ByteArray) (f : Fu) : Bool := beqS f.nm nm
def noFun : Fu := ⟨ByteArray.empty, [], ByteArray.empty⟩
def boxF0 : Box := [.c (.v (.string ByteArray.empty)), .tip none [], .c (.v (.string ByteArray.empty))]
attribute [go_sem] boxF0
def findF (s : Sg) (nm : ByteArray) : Fu × Bool := match s.funs[idx (hasF nm) s.funs]? with | some f => (f, true) | none => (noFun, false)
set_option maxHeartbeats 1000000 in
theorem f35_ev (s : Sg) (nm : ByteArray) (hl : s.funs.length ≤ maxLen) (ro : Nat) (m : Mem) (hro : ro ≤ m.length) :
    evL Tryd.prog An ro 35 [.c (encS s), .c (.v (.string nm))] m = some (.tup [.c (encF (findF s nm).1), .c (.v (.bool (findF s nm).2))], m) := by
  rw [maxLen_eq] at hl
  refine evL_by (n := 22) (by kernel_rfl) rfl fn35 rfl rfl rfl rfl ?_
  simp only [go_sem, ↓reduceIte]
  generalize hL : loopW _ _ = L
  have hle := idx_le (hasF nm) s.funs
  obtain ⟨i, h1, hE, rfl⟩ := loopW_at hL (fun i : Nat => [(11, .c (.v (.int .i64 i)))]) (fun _ => [(4, boxF0)] :: m) (fun i => i ≤ idx (hasF nm) s.funs) (fun i => i = idx (hasF nm) s.funs) (fun i => s.funs.length - i) 0 rfl rfl (by omega) (by
    rintro i h1 hE
    obtain ⟨x, hx⟩ : ∃ x, s.funs[i]? = some x := ⟨_, List.getElem?_eq_getElem (by omega)⟩
    have c1 : decide ((i : Int) < (s.funs.length : Int)) = true := dec_t (by omega)
    have c3 : IntKind.i64.wrap ((i : Int) + 1) = ((i + 1 : Nat) : Int) := wrap64 (by omega) (by omega)
    have c2 := idx_not (hasF nm) s.funs i x (by omega) hx
    unfold hasF at c2
    refine ⟨i + 1, by omega, by omega, ?_⟩
    rw [round_go]
    simp only [go_sem, ↓reduceIte, c1, c2, c3, hx, noFun, hro])
  clear hL
  subst hE
  rw [loopW_go]
  by_cases hi : idx (hasF nm) s.funs < s.funs.length
  · obtain ⟨x, hx⟩ : ∃ x, s.funs[idx (hasF nm) s.funs]? = some x := ⟨_, List.getElem?_eq_getElem hi⟩
    have c1 : decide ((idx (hasF nm) s.funs : Int) < (s.funs.length : Int)) = true := dec_t (by omega)
    have c2 := idx_is (hasF nm) s.funs x hx
    unfold hasF at c2
    have e : findF s nm = (x, true) := by unfold findF; rw [hx]
    rw [e]
    simp only [go_sem, ↓reduceIte, c1, c2, hx, noFun, hro]
  · have c1 : decide ((idx (hasF nm) s.funs : Int) < (s.funs.length : Int)) = false := dec_f (by omega)
    have e : findF s nm = (noFun, false) := by unfold findF; rw [List.getElem?_eq_none (by omega)]
    rw [e]
    simp only [go_sem, ↓reduceIte, c1, noFun, hro]
    rfl
def encR (s : Sg) (vs : List Va) (bs : List ByteArray) : C := .agg [.sl (s.sorts.map cS), .sl (s.funs.map encF), .fn (.func 48) [.fp [.sl (vs.map encV)]], .sl (bs.map cS)]
theorem encR_cells {s : Sg} {vs : List Va} {bs : List ByteArray} : (encR s vs bs).cells = [.sl (s.sorts.map cS), .sl (s.funs.map encF), .fn (.func 48) [.fp [.sl (vs.map encV)]], .sl (bs.map cS)] := rfl
theorem encR_fold {s : Sg} {vs : List Va} {bs : List ByteArray} : C.agg [.sl (s.sorts.map cS), .sl (s.funs.map encF), .fn (.func 48) [.fp [.sl (vs.map encV)]], .sl (bs.map cS)] = encR s vs bs := rfl
theorem encR_agg {s : Sg} {vs : List Va} {bs : List ByteArray} : (encR s vs bs).isAgg = true := rfl
attribute [go_sem] encR_cells encR_fold encR_agg
set_option maxHeartbeats 1000000 in
theorem f25_ev (s : Sg) (vs : List Va) (ro : Nat) (m : Mem) (hro : ro ≤ m.length) : evL Tryd.prog An ro 25 [.c (encS s), .c (.sl (vs.map encV))] m = some (.c (encR s vs []), m) := by
  refine evL_by (n := 8) (by kernel_rfl) rfl fn25 rfl rfl rfl rfl ?_
  simp only [go_sem, ↓reduceIte, hro]
  rfl
set_option maxHeartbeats 1000000 in
theorem f52_ev (s : Sg) (vs : List Va) (bs : List ByteArray) (nm : ByteArray) (pred : Bool) (hl : s.funs.length ≤ maxLen) (ro : Nat) (m : Mem) (hro : ro ≤ m.length) :
    evL Tryd.prog An ro 52 [.c (encR s vs bs), .c (.v (.string nm)), .c (.v (.bool pred))] m = some (.tup [.c (encF (findF s nm).1), .c (.v (.bool ((findF s nm).2 && (beqS (findF s nm).1.res sBool == pred))))], m) := by
  refine evL_by (n := 26) (by kernel_rfl) rfl fn52 rfl rfl rfl rfl ?_
  have hf := fun ro m => f35_ev s nm hl ro m
  have hro1 : ro ≤ m.length + 1 := by omega
  generalize findF s nm = q at hf ⊢
  obtain ⟨f, b⟩ := q
  cases b with
  | true => simp only [go_sem, ↓reduceIte, hf, hro, hro1]
  | false => simp only [go_sem, ↓reduceIte, hf, hro, hro1]
end Go.Eng
set_option maxRecDepth 100000
set_option linter.unusedVariables false
set_option linter.unusedSimpArgs false
namespace Go.Eng
open Go Go.Proofs
set_option maxHeartbeats 1000000 in
theorem f67_ev (way : List Int) (k : Int) (hl : way.length ≤ 1000000) (ro : Nat) (m : Mem) : evL Tryd.prog An ro 67 [.c (.sl (way.map cI)), .c (.v (.int .i64 k))] m = some (.tip (some 1) ((way ++ [k]).map cI), m) := by
  refine evL_by (n := 14) (by kernel_rfl) rfl fn67 rfl rfl rfl rfl ?_
  have h1 : (way.length + 1) * 8 ≤ 140737488355328 := by omega
  have h2 : way.length + 1 ≤ 9223372036854775807 := by omega
  simp only [go_sem, ↓reduceIte, h1, h2]
  rw [← map_snoc]; rfl
/-- the way to the first one of another sort -/
def askW (way : List Int) (frm : Int) : Nat → List ByteArray → List ByteArray → List Int × Int
  | i, h :: hs, w :: ws => if beqS h w then askW way frm (i + 1) hs ws else (way ++ [frm + i], 11)
  | _, _, _ => ([], 0)
def encA (x : List Int × Int) : List V := [.c (.sl (x.1.map cI)), .c (.v (.int .i64 x.2))]
set_option maxHeartbeats 2000000 in
theorem f54_ev (way : List Int) (frm : Int) (has wants : List ByteArray) (hl : way.length ≤ 1000000) (hw : wants.length = has.length) (hn : has.length ≤ 1000000) (h0 : 0 ≤ frm) (h1 : frm ≤ 1000000) (ro : Nat) (m : Mem) :
    evL Tryd.prog An ro 54 [.c (.sl (way.map cI)), .c (.v (.int .i64 frm)), .c (.sl (has.map cS)), .c (.sl (wants.map cS))] m = some (.tup (encA (askW way frm 0 has wants)), m) := by
  refine evL_by (n := 31) (by kernel_rfl) rfl fn54 rfl rfl rfl rfl ?_
  simp only [go_sem, ↓reduceIte]
  generalize hL : loopW _ _ = L
  obtain ⟨i, ⟨k1, k2⟩, hE, rfl⟩ := loopW_at hL (fun i : Nat => [(14, .c (.v (.int .i64 i)))]) (fun _ => [] :: m) (fun i => i ≤ has.length ∧ askW way frm 0 has wants = askW way frm i (has.drop i) (wants.drop i)) (fun i => i = has.length ∨ ∃ x y, has[i]? = some x ∧ wants[i]? = some y ∧ beqS x y = false) (fun i => has.length - i) 0 rfl rfl ⟨by omega, by simp⟩ (by
    rintro i ⟨k1, k2⟩ hE
    simp only [not_or, not_exists, not_and] at hE
    obtain ⟨k3, k4⟩ := hE
    obtain ⟨x, hx⟩ : ∃ x, has[i]? = some x := ⟨_, List.getElem?_eq_getElem (by omega)⟩
    obtain ⟨y, hy⟩ : ∃ y, wants[i]? = some y := ⟨_, List.getElem?_eq_getElem (by omega)⟩
    have c1 : decide ((i : Int) < (wants.length : Int)) = true := dec_t (by omega)
    have c3 : IntKind.i64.wrap ((i : Int) + 1) = ((i + 1 : Nat) : Int) := wrap64 (by omega) (by omega)
    have c2 : beqS x y = true := by simpa using k4 x y hx hy
    refine ⟨i + 1, ⟨by omega, ?_⟩, by omega, ?_⟩
    · rw [k2, drop_get hx, drop_get hy, askW, if_pos c2]
    · rw [round_go]
      simp only [go_sem, ↓reduceIte, c1, c2, c3, hx, hy])
  clear hL
  rw [loopW_go, k2]
  by_cases hi : i = has.length
  · have c1 : decide ((i : Int) < (wants.length : Int)) = false := dec_f (by omega)
    rw [List.drop_eq_nil_of_le (by omega), askW]
    simp only [go_sem, ↓reduceIte, c1, encA]
    intro _ _ _ _ h; cases h
  · obtain ⟨x, y, hx, hy, c2⟩ := hE.resolve_left hi
    have c1 : decide ((i : Int) < (wants.length : Int)) = true := dec_t (by omega)
    have c4 : IntKind.i64.wrap (frm + (i : Int)) = frm + i := wrap64 (by omega) (by omega)
    rw [drop_get hx, drop_get hy, askW, if_neg (by simp [c2])]
    simp only [go_sem, ↓reduceIte, c1, c2, hx, hy, c4, f67_ev _ _ hl, encA]
end Go.Eng
set_option maxRecDepth 100000
set_option linter.unusedVariables false
set_option linter.unusedSimpArgs false
namespace Go.Eng
open Go Go.Proofs
abbrev Ans := ByteArray × List Int × Int
/-- a function of things -/
def applyW (way : List Int) (f : Fu) (ok : Bool) (has : List ByteArray) : Ans :=
  if ok = false then (noS, way, 10)
  else if f.args.length ≠ has.length then (noS, way, 12)
  else if (askW way 0 0 has f.args).2 ≠ 0 then (noS, (askW way 0 0 has f.args).1, (askW way 0 0 has f.args).2)
  else (f.res, [], 0)
def encN (x : Ans) : List V := [.c (.v (.string x.1)), .c (.sl (x.2.1.map cI)), .c (.v (.int .i64 x.2.2))]
theorem len_ne {a b : Nat} : ((a : Int) != (b : Int)) = decide (a ≠ b) := by
  by_cases h : a = b
  · subst h; simp
  · rw [decide_eq_true (by exact h)]; simp; omega
set_option maxHeartbeats 2000000 in
theorem f53_ev (s : Sg) (vs : List Va) (bs : List ByteArray) (way : List Int) (f : Fu) (ok : Bool) (has : List ByteArray) (hl : way.length ≤ 1000000) (hn : has.length ≤ 1000000) (ro : Nat) (m : Mem) :
    evL Tryd.prog An ro 53 [.c (encR s vs bs), .c (.sl (way.map cI)), .c (encF f), .c (.v (.bool ok)), .c (.sl (has.map cS))] m = some (.tup (encN (applyW way f ok has)), m) := by
  refine evL_by (n := 41) (by kernel_rfl) rfl fn53 rfl rfl rfl rfl ?_
  unfold applyW
  cases ok with
  | false => simp only [go_sem, ↓reduceIte, encN, noS]
  | true =>
    by_cases h1 : f.args.length ≠ has.length
    · have c1 : decide (f.args.length ≠ has.length) = true := dec_t h1
      simp only [go_sem, ↓reduceIte, len_ne, c1, if_pos h1, encN, noS]
    · have c1 : decide (f.args.length ≠ has.length) = false := dec_f h1
      have hw : f.args.length = has.length := by simpa using h1
      have ha := fun ro m => f54_ev way 0 has f.args hl hw hn (by omega) (by omega) ro m
      generalize askW way 0 0 has f.args = q at ha ⊢
      obtain ⟨at_, e⟩ := q
      by_cases h2 : e = 0
      · have c2 : (e != 0) = false := by simp [h2]
        simp only [go_sem, ↓reduceIte, len_ne, c1, if_neg h1, ha, encA, encN, noS, c2]
        simp [h2]
      · have c2 : (e != 0) = true := by simpa using h2
        simp only [go_sem, ↓reduceIte, len_ne, c1, if_neg h1, ha, encA, encN, c2, noS]
        simp [h2]
/-- so far down, and no more than 8 at once, and no binder that there is not -/
inductive fitT : Nat → Tm → Prop
  | mk (d : Nat) (t : Tm) (h : t.l.length ≤ 8) (hb : t.op = 2 → 0 ≤ t.nu) (h2 : t.op ≠ 3 → t.l.length ≤ 2) (r : ∀ x ∈ t.l, fitT d x) : fitT (d + 1) t
def ownW (s : Sg) (vs : List Va) (bs : List ByteArray) (way : List Int) (op : Int) (nm : ByteArray) (nu : Int) (has : List ByteArray) : Ans :=
  if op = 1 then (match sortOf vs nm with | some so => (so, [], 0) | none => (noS, way, 10))
  else if op = 2 then (if (bs.length : Int) ≤ nu then (noS, way, 13) else (bs.getD (bs.length - 1 - nu.toNat) noS, [], 0))
  else if op = 3 then applyW way (findF s nm).1 ((findF s nm).2 && (beqS (findF s nm).1.res sBool == false)) has
  else if (askW way 0 0 has (List.replicate has.length sInt)).2 ≠ 0 then (noS, (askW way 0 0 has (List.replicate has.length sInt)).1, (askW way 0 0 has (List.replicate has.length sInt)).2)
  else (sInt, [], 0)
mutual
def termW (s : Sg) (vs : List Va) (bs : List ByteArray) : List Int → Tm → Ans
  | way, .mk op nm nu l => if (allW s vs bs way 0 l).2.2 ≠ 0 then (noS, (allW s vs bs way 0 l).2.1, (allW s vs bs way 0 l).2.2) else ownW s vs bs way op nm nu (allW s vs bs way 0 l).1
def allW (s : Sg) (vs : List Va) (bs : List ByteArray) : List Int → Nat → List Tm → List ByteArray × List Int × Int
  | _, _, [] => ([], [], 0)
  | way, i, x :: r => if (termW s vs bs (way ++ [(i : Int)]) x).2.2 ≠ 0 then ([], (termW s vs bs (way ++ [(i : Int)]) x).2.1, (termW s vs bs (way ++ [(i : Int)]) x).2.2)
    else if (allW s vs bs way (i + 1) r).2.2 ≠ 0 then allW s vs bs way (i + 1) r
    else ((termW s vs bs (way ++ [(i : Int)]) x).1 :: (allW s vs bs way (i + 1) r).1, [], 0)
end
theorem allW_err {s : Sg} {vs : List Va} {bs : List ByteArray} {way : List Int} : ∀ {l : List Tm} {i : Nat}, (allW s vs bs way i l).2.2 ≠ 0 → (allW s vs bs way i l).1 = []
  | [], i, h => by simp [allW] at h
  | x :: r, i, h => by
    simp only [allW] at h ⊢
    split
    · rfl
    · split
      · rename_i h2; exact allW_err h2
      · rename_i h1 h2; rw [if_neg h1, if_neg h2] at h; simp at h
theorem allW_ok {s : Sg} {vs : List Va} {bs : List ByteArray} {way : List Int} : ∀ {l : List Tm} {i : Nat}, (allW s vs bs way i l).2.2 = 0 → (allW s vs bs way i l).1.length = l.length ∧ (allW s vs bs way i l).2.1 = []
  | [], i, h => by simp [allW]
  | x :: r, i, h => by
    simp only [allW] at h ⊢
    split at h
    · rename_i h1; exact absurd h h1
    · split at h
      · rename_i h2; exact absurd h h2
      · rename_i h1 h2
        rw [if_neg h1, if_neg h2]
        exact ⟨by simp [(allW_ok (by simpa using h2)).1], rfl⟩
/-- what a loop over the terms knows so far -/
def restW (s : Sg) (vs : List Va) (bs : List ByteArray) (way : List Int) (i : Nat) (out : List ByteArray) (r : List Tm) : List ByteArray × List Int × Int :=
  if (allW s vs bs way i r).2.2 ≠ 0 then ([], (allW s vs bs way i r).2) else (out ++ (allW s vs bs way i r).1, [], 0)
def encL3 (x : List ByteArray × List Int × Int) : List V := [.c (.sl (x.1.map cS)), .c (.sl (x.2.1.map cI)), .c (.v (.int .i64 x.2.2))]
end Go.Eng
