-- own work: an evaluator of the program's code, and what it answers
import Derived.Test.YtapjanalameofaaDoorH15
import Derived.Test.YtapjanalameofaaDoorBrk
/- Claims of small letters, without binders: the law's own functions. -/
set_option maxRecDepth 100000
set_option linter.unusedVariables false
set_option linter.unusedSimpArgs false
namespace Go.Eng
open Go Go.Proofs
def smallX (x : UInt8) : Bool := decide (97 ≤ x.toNat) && decide (x.toNat ≤ 122)
theorem smallB_eq (s : ByteArray) : smallB s = s.data.toList.all smallX := by unfold smallB; rw [Lib.toList_data]; rfl
set_option maxHeartbeats 4000000 in
theorem small_ev (s : ByteArray) (hs : s.size ≤ maxLen) (ro : Nat) (m : Mem) : evL Tryd.prog An ro 43 [.c (.v (.string s))] m = some (.c (.v (.bool (smallB s))), m) := by
  rw [maxLen_eq] at hs
  have hsz : s.size = s.data.toList.length := by rw [Array.length_toList]; rfl
  refine evL_by (n := 20) (by kernel_rfl) rfl fn43 rfl rfl rfl rfl ?_
  rw [smallB_eq]
  simp only [go_sem, ↓reduceIte]
  generalize hL : loopW _ _ = L
  obtain ⟨i, ⟨k1, k2⟩, hE, rfl⟩ := loopW_at hL (fun i : Nat => [(6, .c (.v (.int .i64 i)))]) (fun _ => [] :: m) (fun i => i ≤ s.data.toList.length ∧ (s.data.toList.take i).all smallX = true) (fun i => i = s.data.toList.length ∨ ∃ x, s.data.toList[i]? = some x ∧ smallX x = false) (fun i => s.data.toList.length - i) 0 rfl rfl ⟨by omega, by simp⟩ (by
    rintro i ⟨k1, k2⟩ hE
    simp only [not_or, not_exists, not_and] at hE
    obtain ⟨e1, e2⟩ := hE
    obtain ⟨x, hx⟩ : ∃ x, s.data.toList[i]? = some x := ⟨_, List.getElem?_eq_getElem (by omega)⟩
    have d1 : decide ((i : Int) < (s.size : Int)) = true := dec_t (by omega)
    have d2 : smallX x = true := by simpa using e2 x hx
    have d3 : IntKind.i64.wrap ((i : Int) + 1) = ((i + 1 : Nat) : Int) := wrap64 (by omega) (by omega)
    have d4 := d2
    unfold smallX at d4
    simp only [Bool.and_eq_true, decide_eq_true_eq] at d4
    have d5 : decide ((x.toNat : Int) < 97) = false := dec_f (by omega)
    have d6 : decide ((x.toNat : Int) > 122) = false := dec_f (by omega)
    refine ⟨i + 1, ⟨by omega, ?_⟩, by omega, ?_⟩
    · rw [List.take_add_one, hx, List.all_append, k2]; simp [d2]
    rw [round_go]
    simp only [go_sem, ↓reduceIte, d1, d3, d5, d6, ba_get, hx])
  clear hL
  rw [loopW_go]
  rcases hE with rfl | ⟨x, hx, hz⟩
  · rw [List.take_length] at k2
    have d1 : decide ((s.data.toList.length : Int) < (s.size : Int)) = false := dec_f (by omega)
    simp only [go_sem, ↓reduceIte, d1, k2]
  · have hil := (List.getElem?_eq_some_iff.1 hx).1
    have d1 : decide ((i : Int) < (s.size : Int)) = true := dec_t (by omega)
    have d2 : s.data.toList.all smallX = false := by
      rw [List.all_eq_false]
      exact ⟨x, List.mem_of_getElem? hx, by simp [hz]⟩
    rw [d2]
    unfold smallX at hz
    by_cases h97 : x.toNat < 97
    · have d5 : decide ((x.toNat : Int) < 97) = true := dec_t (by omega)
      simp only [go_sem, ↓reduceIte, d1, d5, ba_get, hx]
    · have d5 : decide ((x.toNat : Int) < 97) = false := dec_f (by omega)
      have d6 : decide ((x.toNat : Int) > 122) = true := dec_t (by
        by_cases h : x.toNat ≤ 122
        · rw [dec_t (show 97 ≤ x.toNat by omega), dec_t h] at hz; cases hz
        · omega)
      simp only [go_sem, ↓reduceIte, d1, d5, d6, ba_get, hx]
theorem okT_nm {t : Tm} (h : okT t) : t.nm.size ≤ maxLen := by cases h; assumption
theorem okC_nm {c : Cl} (h : okC c) : c.nm.size ≤ maxLen := by cases h; assumption
set_option maxHeartbeats 4000000 in
theorem tletter_ev (t : Tm) (ht : okT t) (ro : Nat) (m : Mem) (hro : ro ≤ m.length) : evL Tryd.prog An ro 44 [.c (encT t)] m = some (.c (.v (.bool (letT t))), m) := by
  induction hd : SizeOf.sizeOf t using Nat.strongRecOn generalizing t ro m with
  | _ d ih =>
  have hlen := ht.len
  rw [maxLen_eq] at hlen
  have hro1 : ro ≤ m.length + 1 := by omega
  have hsm := fun ro m => small_ev t.nm (okT_nm ht) ro m
  refine evL_by (n := 19) (by kernel_rfl) rfl fn44 rfl rfl rfl rfl ?_
  simp only [go_sem, ↓reduceIte]
  generalize hL : loopW _ _ = L
  obtain ⟨i, ⟨k1, k2⟩, hE, rfl⟩ := loopW_at hL (fun i : Nat => [(8, .c (.v (.int .i64 i)))]) (fun _ => [] :: m) (fun i => i ≤ t.l.length ∧ (t.l.take i).all letT = true) (fun i => i = t.l.length ∨ ∃ x, t.l[i]? = some x ∧ letT x = false) (fun i => t.l.length - i) 0 rfl rfl ⟨by omega, by simp⟩ (by
    rintro i ⟨k1, k2⟩ hE
    simp only [not_or, not_exists, not_and] at hE
    obtain ⟨e1, e2⟩ := hE
    obtain ⟨x, hx⟩ : ∃ x, t.l[i]? = some x := ⟨_, List.getElem?_eq_getElem (by omega)⟩
    have d1 : decide ((i : Int) < (t.l.length : Int)) = true := dec_t (by omega)
    have d2 : letT x = true := by simpa using e2 x hx
    have d3 : IntKind.i64.wrap ((i : Int) + 1) = ((i + 1 : Nat) : Int) := wrap64 (by omega) (by omega)
    have hr := fun ro m hro => ih _ (by have := Tm.lt (List.mem_of_getElem? hx); omega) x (ht.arg (List.mem_of_getElem? hx)) ro m hro rfl
    rw [d2] at hr
    refine ⟨i + 1, ⟨by omega, ?_⟩, by omega, ?_⟩
    · rw [List.take_add_one, hx, List.all_append, k2]; simp [d2]
    rw [round_go]
    simp only [go_sem, ↓reduceIte, d1, d3, hx, hr, hro, hro1])
  clear hL
  rw [loopW_go, letT_eq]
  by_cases hi : i = t.l.length
  · subst hi
    rw [List.take_length] at k2
    have d1 : decide ((t.l.length : Int) < (t.l.length : Int)) = false := dec_f (by omega)
    simp only [go_sem, ↓reduceIte, d1, k2, hsm]
  · obtain ⟨x, hx, hz⟩ := hE.resolve_left hi
    have hil := (List.getElem?_eq_some_iff.1 hx).1
    have d1 : decide ((i : Int) < (t.l.length : Int)) = true := dec_t (by omega)
    have hr := fun ro m hro => ih _ (by have := Tm.lt (List.mem_of_getElem? hx); omega) x (ht.arg (List.mem_of_getElem? hx)) ro m hro rfl
    rw [hz] at hr
    have d2 : t.l.all letT = false := by
      rw [List.all_eq_false]
      exact ⟨x, List.mem_of_getElem? hx, by simp [hz]⟩
    simp only [go_sem, ↓reduceIte, d1, d2, hx, hr, hro, hro1]
set_option maxHeartbeats 4000000 in
theorem letter_evC (c : Cl) (hc : okC c) (ro : Nat) (m : Mem) (hro : ro ≤ m.length) : evL Tryd.prog An ro 21 [.c (encC c)] m = some (.c (.v (.bool (letC c))), m) := by
  induction hd : SizeOf.sizeOf c using Nat.strongRecOn generalizing c ro m with
  | _ d ih =>
  have hts := hc.len.1
  have hss := hc.len.2
  rw [maxLen_eq] at hts hss
  have hro1 : ro ≤ m.length + 1 := by omega
  have hcs := fun (x : Cl) (hx : x ∈ c.ss) (ro : Nat) (m : Mem) (hro : ro ≤ m.length) => ih _ (by have := Cl.lt hx; omega) x (hc.arg.2 x hx) ro m hro rfl
  have hsm := fun ro m => small_ev c.nm (okC_nm hc) ro m
  refine evL_by (n := 43) (by kernel_rfl) rfl fn21 rfl rfl rfl rfl ?_
  rw [letC_eq]
  refine cut ⟨[.c (encC c), boxClaim c, .c (.v (.bool false))] ++ List.replicate 40 .undef, [] :: m⟩ rfl (by simp only [go_sem, ↓reduceIte, upS_n, leL_nil, leL_cons, or_true, true_or, and_self]) ?_
  by_cases hbs : bindB c.op = true ∨ smallB c.nm = false
  · have hz : (!(bindB c.op || !smallB c.nm) && (c.ts.all letT && c.ss.all letC)) = false := by
      rcases hbs with h | h <;> rw [h] <;> simp
    rw [hz]
    clear hz
    unfold bindB at hbs
    cases b11 : (c.op == 11) with
    | true => simp only [go_sem, ↓reduceIte, b11]
    | false =>
      cases b12 : (c.op == 12) with
      | true => simp only [go_sem, ↓reduceIte, b11, b12]
      | false =>
        have h2 : smallB c.nm = false := hbs.resolve_left (by rw [b11, b12]; decide)
        rw [h2] at hsm
        simp only [go_sem, ↓reduceIte, b11, b12, hsm]
  · simp only [not_or, Bool.not_eq_true, Bool.not_eq_false] at hbs
    obtain ⟨hb, hs⟩ := hbs
    refine cut ⟨[.c (encC c), boxClaim c, .c (.v (.bool false))] ++ List.replicate 40 .undef, [] :: m⟩ rfl (by
      unfold bindB at hb
      rw [Bool.or_eq_false_iff] at hb
      obtain ⟨b11, b12⟩ := hb
      rw [hs] at hsm
      simp only [go_sem, ↓reduceIte, b11, b12, hsm, upS_n, leL_nil, leL_cons, or_true, true_or, and_self]) ?_
    rw [hb, hs]
    clear hsm hb hs
    simp only [go_sem, ↓reduceIte]
    generalize hL : loopW _ _ = L
    obtain ⟨i, ⟨k1, k2⟩, hE, rfl⟩ := loopW_at hL (fun i : Nat => [(24, .c (.v (.int .i64 i)))]) (fun _ => [] :: m) (fun i => i ≤ c.ts.length ∧ (c.ts.take i).all letT = true) (fun i => i = c.ts.length ∨ ∃ x, c.ts[i]? = some x ∧ letT x = false) (fun i => c.ts.length - i) 0 rfl rfl ⟨by omega, by simp⟩ (by
      rintro i ⟨k1, k2⟩ hE
      simp only [not_or, not_exists, not_and] at hE
      obtain ⟨e1, e2⟩ := hE
      obtain ⟨x, hx⟩ : ∃ x, c.ts[i]? = some x := ⟨_, List.getElem?_eq_getElem (by omega)⟩
      have d1 : decide ((i : Int) < (c.ts.length : Int)) = true := dec_t (by omega)
      have d2 : letT x = true := by simpa using e2 x hx
      have d3 : IntKind.i64.wrap ((i : Int) + 1) = ((i + 1 : Nat) : Int) := wrap64 (by omega) (by omega)
      have hr := fun ro m hro => tletter_ev x (hc.arg.1 x (List.mem_of_getElem? hx)) ro m hro
      rw [d2] at hr
      refine ⟨i + 1, ⟨by omega, ?_⟩, by omega, ?_⟩
      · rw [List.take_add_one, hx, List.all_append, k2]; simp [d2]
      rw [round_go]
      simp only [go_sem, ↓reduceIte, d1, d3, hx, hr, hro, hro1])
    clear hL
    rw [loopW_go]
    rcases hE with rfl | ⟨x, hx, hz⟩
    · rw [List.take_length] at k2
      have d1 : decide ((c.ts.length : Int) < (c.ts.length : Int)) = false := dec_f (by omega)
      simp only [go_sem, ↓reduceIte, d1]
      generalize hL : loopW _ _ = L
      obtain ⟨i, ⟨k3, k4⟩, hE, rfl⟩ := loopW_at hL (fun i : Nat => [(35, .c (.v (.int .i64 i)))]) (fun _ => [] :: m) (fun i => i ≤ c.ss.length ∧ (c.ss.take i).all letC = true) (fun i => i = c.ss.length ∨ ∃ x, c.ss[i]? = some x ∧ letC x = false) (fun i => c.ss.length - i) 0 rfl rfl ⟨by omega, by simp⟩ (by
        rintro i ⟨k3, k4⟩ hE
        simp only [not_or, not_exists, not_and] at hE
        obtain ⟨e1, e2⟩ := hE
        obtain ⟨x, hx⟩ : ∃ x, c.ss[i]? = some x := ⟨_, List.getElem?_eq_getElem (by omega)⟩
        have d1 : decide ((i : Int) < (c.ss.length : Int)) = true := dec_t (by omega)
        have d2 : letC x = true := by simpa using e2 x hx
        have d3 : IntKind.i64.wrap ((i : Int) + 1) = ((i + 1 : Nat) : Int) := wrap64 (by omega) (by omega)
        have hr := hcs x (List.mem_of_getElem? hx)
        rw [d2] at hr
        refine ⟨i + 1, ⟨by omega, ?_⟩, by omega, ?_⟩
        · rw [List.take_add_one, hx, List.all_append, k4]; simp [d2]
        rw [round_go]
        simp only [go_sem, ↓reduceIte, d1, d3, hx, hr, hro, hro1])
      clear hL
      rw [loopW_go]
      rcases hE with rfl | ⟨x, hx, hz⟩
      · rw [List.take_length] at k4
        have d2 : decide ((c.ss.length : Int) < (c.ss.length : Int)) = false := dec_f (by omega)
        rw [k2, k4]
        simp only [go_sem, ↓reduceIte, d2]
      · have hil := (List.getElem?_eq_some_iff.1 hx).1
        have d2 : decide ((i : Int) < (c.ss.length : Int)) = true := dec_t (by omega)
        have hr := hcs x (List.mem_of_getElem? hx)
        rw [hz] at hr
        have d3 : c.ss.all letC = false := by
          rw [List.all_eq_false]
          exact ⟨x, List.mem_of_getElem? hx, by simp [hz]⟩
        rw [d3]
        simp only [go_sem, ↓reduceIte, d2, hx, hr, hro, hro1]
    · have hil := (List.getElem?_eq_some_iff.1 hx).1
      have d1 : decide ((i : Int) < (c.ts.length : Int)) = true := dec_t (by omega)
      have hr := fun ro m hro => tletter_ev x (hc.arg.1 x (List.mem_of_getElem? hx)) ro m hro
      rw [hz] at hr
      have d2 : c.ts.all letT = false := by
        rw [List.all_eq_false]
        exact ⟨x, List.mem_of_getElem? hx, by simp [hz]⟩
      rw [d2]
      simp only [go_sem, ↓reduceIte, d1, hx, hr, hro, hro1]
end Go.Eng
/- The law of brackets. -/
set_option maxRecDepth 100000
set_option linter.unusedVariables false
set_option linter.unusedSimpArgs false
namespace Go.Eng
open Go Go.Proofs
theorem runB_le : ∀ (l : List UInt8) (d d' : Nat), runB l d = some d' → d' ≤ d + l.length
  | [], d, d', h => by cases h; simp
  | x :: r, d, d', h => by
    rw [runB_cons] at h
    rw [List.length_cons]
    split at h
    · have := runB_le r _ _ h; omega
    · split at h
      · cases d with
        | zero => cases h
        | succ d => have := runB_le r _ _ h; omega
      · have := runB_le r _ _ h; omega
theorem runB_take {l : List UInt8} (h : runB l 0 = some 0) (i : Nat) : ∃ d, runB (l.take i) 0 = some d := by
  rw [← List.take_append_drop i l, runB_append] at h
  cases hd : runB (l.take i) 0 with
  | none => rw [hd] at h; cases h
  | some d => exact ⟨d, rfl⟩
theorem runB_next {l : List UInt8} {i : Nat} {x : UInt8} (hx : l[i]? = some x) {d d' : Nat} (h : runB (l.take i) 0 = some d) (h2 : runB (l.take (i + 1)) 0 = some d') :
    ((x.toNat : Int) = 40 ∧ d' = d + 1) ∨ ((x.toNat : Int) = 41 ∧ d = d' + 1) ∨ ((x.toNat : Int) ≠ 40 ∧ (x.toNat : Int) ≠ 41 ∧ d' = d) := by
  rw [List.take_add_one, hx, runB_append, h] at h2
  simp only [Option.toList_some, Option.bind_some] at h2
  rw [runB_cons] at h2
  have h40 : (40 : UInt8).toNat = 40 := rfl
  have h41 : (41 : UInt8).toNat = 41 := rfl
  split at h2
  · rename_i e
    subst e
    cases h2
    exact .inl ⟨by omega, rfl⟩
  · rename_i e
    split at h2
    · rename_i e2
      subst e2
      cases d with
      | zero => cases h2
      | succ d => cases h2; exact .inr (.inl ⟨by omega, rfl⟩)
    · rename_i e2
      cases h2
      refine .inr (.inr ⟨fun k => e ?_, fun k => e2 ?_, rfl⟩)
      · exact UInt8.toNat_inj.1 (by omega)
      · exact UInt8.toNat_inj.1 (by omega)
theorem sign_pick {op : Int} {k : Nat} (h : op = ((7 + k : Nat) : Int)) (hk : k < 4) :
    [C.v (.string ⟨#[32, 38, 32]⟩), C.v (.string ⟨#[32, 124, 32]⟩), C.v (.string ⟨#[32, 45, 62, 32]⟩), C.v (.string ⟨#[32, 60, 45, 62, 32]⟩)][k]? = some (C.v (.string (signB op))) := by
  subst h
  have : k = 0 ∨ k = 1 ∨ k = 2 ∨ k = 3 := by omega
  rcases this with rfl | rfl | rfl | rfl <;> rfl
/-- how a sign's text is put together -/
theorem whole_text {a b : Cl} {op : Int} (h : 7 ≤ op ∧ op ≤ 10) (ha : letC a = true) (hb : letC b = true) :
    Bal (textC (.mk op noS noS [] [a, b])) ∧ (textC (.mk op noS noS [] [a, b]) = (textC a ++ signB op) ++ textC b ∨ textC (.mk op noS noS [] [a, b]) = (((lparB ++ textC a) ++ rparB) ++ signB op) ++ textC b ∨
      textC (.mk op noS noS [] [a, b]) = (((textC a ++ signB op) ++ lparB) ++ textC b) ++ rparB ∨ textC (.mk op noS noS [] [a, b]) = (((((lparB ++ textC a) ++ rparB) ++ signB op) ++ lparB) ++ textC b) ++ rparB) := by
  have hW : letC (.mk op noS noS [] [a, b]) = true := by
    have hb0 : bindB op = false := by unfold bindB; rw [beq_eq_false_iff_ne.2 (by omega), beq_eq_false_iff_ne.2 (by omega)]; rfl
    have hs : smallB noS = true := by rw [smallB_eq]; rfl
    rw [letC, hb0, hs, letCs, letCs, letCs, ha, hb]; rfl
  refine ⟨Bal.txtC _ _ _ hW, ?_⟩
  have ht := (tight_pos op).resolve_left (fun h0 => by
    have : op = 7 ∨ op = 8 ∨ op = 9 ∨ op = 10 := by omega
    rcases this with rfl | rfl | rfl | rfl <;> cases h0)
  have e : textC (.mk op noS noS [] [a, b]) = (txtC (namesC (.mk op noS noS [] [a, b])) [] (tightB op + 1) false a ++ signB op) ++ txtC (namesC (.mk op noS noS [] [a, b])) [] (tightB op) true b := by
    have hb0 : bindB op = false := by unfold bindB; rw [beq_eq_false_iff_ne.2 (by omega), beq_eq_false_iff_ne.2 (by omega)]; rfl
    unfold textC
    have key : ∀ (free : List ByteArray) (c : Cl), c.op = op → c.ss = [a, b] → txtC free [] 1 true c = (txtC free [] (tightB op + 1) false a ++ signB op) ++ txtC free [] (tightB op) true b := fun free c h1 h2 => by
      rw [txtC_eq, h1, h2]
      rw [if_neg (by omega), if_neg (by omega), if_neg (by omega), if_neg (by omega), if_neg (by omega), if_neg (by rw [hb0]; decide), if_neg (by omega), dec_f (show ¬ tightB op < 1 by omega)]
      simp only [txt0, txt1, brX_f, Bool.true_or]
    exact key _ _ rfl rfl
  rw [e]
  have ea := txtC_in (free := namesC (.mk op noS noS [] [a, b])) (free' := namesC a) a [] (tightB op + 1) false ha
  have eb := txtC_in (free := namesC (.mk op noS noS [] [a, b])) (free' := namesC b) b [] (tightB op) true hb
  unfold textC
  rw [brX_t] at ea eb
  rcases ea with ea | ea <;> rcases eb with eb | eb <;> rw [ea, eb]
  · exact .inl rfl
  · exact .inr (.inr (.inl (by simp only [cat_assoc])))
  · exact .inr (.inl rfl)
  · exact .inr (.inr (.inr (by simp only [cat_assoc])))
theorem look0 (fr : Fr) (t : Nat) : look [fr] 0 t = lk fr t := look_top (r := [])
theorem put0 (fr : Fr) (t : Nat) (b : Box) : put [fr] 0 t b = [upd fr t b] := put_top (r := [])
set_option maxHeartbeats 16000000 in
theorem showBrackets_ev (a b : Cl) (op : Int) (ha : okC a) (hb : okC b) (hw : (Lit.int .i64 op).wf = true) :
    evL Tryd.prog An 0 6 [.c (encC a), .c (encC b), .c (.v (.int .i64 op))] [] = some (.c (.v (.bool true)), []) := by
  have al := fun fr => alive_ev fr 0 (.inl rfl)
  have pa := fun ro m hro => plain_ev a ha 150 (by omega) ro m hro
  have pb := fun ro m hro => plain_ev b hb 150 (by omega) ro m hro
  have la := fun ro m hro => letter_evC a ha ro m hro
  have lb := fun ro m hro => letter_evC b hb ro m hro
  have e3 : ((150 : Nat) : Int) = 150 := rfl
  simp only [e3] at pa pb
  refine evL_by (n := 129) (by kernel_rfl) rfl fn6 rfl rfl rfl rfl ?_
  cases h1 : plainB a 150 with
  | false => rw [h1] at pa; simp only [go_sem, ↓reduceIte, pa, al]
  | true =>
  rw [h1] at pa
  cases h2 : plainB b 150 with
  | false => rw [h2] at pb; simp only [go_sem, ↓reduceIte, pa, pb, al]
  | true =>
  rw [h2] at pb
  cases h3 : letC a with
  | false => rw [h3] at la; simp only [go_sem, ↓reduceIte, pa, pb, la, al]
  | true =>
  rw [h3] at la
  cases h4 : letC b with
  | false => rw [h4] at lb; simp only [go_sem, ↓reduceIte, pa, pb, la, lb, al]
  | true =>
  rw [h4] at lb
  cases h5 : decide (op < 7) with
  | true => simp only [go_sem, ↓reduceIte, pa, pb, la, lb, h5, al]
  | false =>
  cases h6 : decide (op > 10) with
  | true => simp only [go_sem, ↓reduceIte, pa, pb, la, lb, h5, h6, al]
  | false =>
  have n5 := of_decide_eq_false h5
  have n6 := of_decide_eq_false h6
  have hop : 7 ≤ op ∧ op ≤ 10 := by omega
  unfold plainB at h1 h2
  simp only [Bool.and_eq_true, Bool.not_eq_true', decide_eq_false_iff_not, beq_iff_eq] at h1 h2
  obtain ⟨u1, u2, u3⟩ := h1
  obtain ⟨v1, v2, v3⟩ := h2
  have oka : ClaimOK a := ⟨ha, firstC_right u2, u3, by omega⟩
  have okb : ClaimOK b := ⟨hb, firstC_right v2, v3, by omega⟩
  have okW : okC (.mk op noS noS [] [a, b]) := .mk _ (by rw [maxLen_eq]; show (0 : Nat) ≤ _; omega) (by rw [maxLen_eq]; show (2 : Nat) ≤ _; omega) hw (by rw [maxLen_eq]; show (0 : Nat) ≤ _; omega) (by rw [maxLen_eq]; show (0 : Nat) ≤ _; omega) (fun x hx => by cases hx) (fun x hx => by
    rcases List.mem_cons.1 hx with rfl | hx
    · exact ha
    · rcases List.mem_cons.1 hx with rfl | hx
      · exact hb
      · cases hx)
  have hE : encC (.mk op noS noS [] [a, b]) = C.agg [C.v (.int .i64 op), C.v (.string ByteArray.empty), C.v (.string ByteArray.empty), C.sl [], C.sl [encC a, encC b]] := by rw [encC_mk]; rfl
  have rW := fun ro m hro => cRight_ev (.mk op noS noS [] [a, b]) okW ro m hro
  rw [hE] at rW
  by_cases h7 : rightC (.mk op noS noS [] [a, b]) = 0
  case neg =>
    have c7 : (rightC (.mk op noS noS [] [a, b]) != 0) = true := by simpa using h7
    generalize rightC (.mk op noS noS [] [a, b]) = rr at rW c7
    simp only [go_sem, ↓reduceIte, pa, pb, la, lb, h5, h6, look0, put0, rW, c7, al]
  rw [h7] at rW
  have c7 : ((0 : Int) != 0) = false := rfl
  have okw : ClaimOK (.mk op noS noS [] [a, b]) := by
    refine ⟨okW, firstC_right h7, ?_, ?_⟩
    · rw [namedB, namedBs, namedBs, namedBs, u3, v3]; rfl
    · rw [sizeC, sizeTs, sizeCs, sizeCs, sizeCs]; omega
  have sW := fun ro m hro => sClaim_ev (.mk op noS noS [] [a, b]) okw ro m hro
  rw [hE] at sW
  have sA := fun ro m hro => sClaim_ev a oka ro m hro
  have sB := fun ro m hro => sClaim_ev b okb ro m hro
  obtain ⟨hbal, h4t⟩ := whole_text hop h3 h4
  have zW : (textC (.mk op noS noS [] [a, b])).size ≤ 4000000 := okw.len (free := namesC (.mk op noS noS [] [a, b])) (ns := []) (fun s hs => by cases hs) 1 true
  have zA : (textC a).size ≤ 4000000 := oka.len (free := namesC a) (ns := []) (fun s hs => by cases hs) 1 true
  have zB : (textC b).size ≤ 4000000 := okb.len (free := namesC b) (ns := []) (fun s hs => by cases hs) 1 true
  obtain ⟨k, hk⟩ : ∃ k : Nat, op = ((7 + k : Nat) : Int) := ⟨(op - 7).toNat, by omega⟩
  have hk4 : k < 4 := by omega
  have hp := sign_pick hk hk4
  have hw7 : IntKind.i64.wrap (op - 7) = (k : Int) := (wrap64 (by omega) (by omega)).trans (by omega)
  have zS : (signB op).size ≤ 5 := by
    have : op = 7 ∨ op = 8 ∨ op = 9 ∨ op = 10 := by omega
    rcases this with k | k | k | k <;> rw [k] <;> decide
  clear hE okw oka okb okW h3 h4 u2 v2 u3 v3 hk hop h7 hw n5 n6
  generalize textC (.mk op noS noS [] [a, b]) = X at *
  generalize textC a = L at *
  generalize textC b = R at *
  generalize signB op = sg at *
  have hX0 := hbal 0
  rw [Lib.toList_data] at hX0
  have hXl : X.size = X.data.toList.length := by rw [Array.length_toList]; rfl
  simp only [go_sem, ↓reduceIte, pa, pb, la, lb, h5, h6, look0, put0, rW, c7, sW, sA, sB, hw7, hp]
  generalize hL : loopW _ _ = LL
  obtain ⟨i, k1, hEnd, rfl⟩ := loopW_at hL (fun i : Nat => [(12, .c (.v (.int .i64 (((runB (X.data.toList.take i) 0).getD 0 : Nat) : Int)))), (63, .c (.v (.int .i64 i)))]) (fun _ => [[(7, [.c (.v (.int .i64 op)), .c (.v (.string ByteArray.empty)), .c (.v (.string ByteArray.empty)), .tip none [], .c (.sl [encC a, encC b])])]]) (fun i => i ≤ X.data.toList.length) (fun i => i = X.data.toList.length) (fun i => X.data.toList.length - i) 0 rfl rfl (by omega) (by
    rintro i k1 hEnd
    obtain ⟨x, hx⟩ : ∃ x, X.data.toList[i]? = some x := ⟨_, List.getElem?_eq_getElem (by omega)⟩
    have d1 : decide ((i : Int) < (X.size : Int)) = true := dec_t (by omega)
    have d3 : IntKind.i64.wrap ((i : Int) + 1) = ((i + 1 : Nat) : Int) := wrap64 (by omega) (by omega)
    obtain ⟨dp, q1⟩ := runB_take hX0 i
    obtain ⟨dq, q2⟩ := runB_take hX0 (i + 1)
    have q3 := runB_next hx q1 q2
    have q4 := runB_le _ _ _ q1
    rw [List.length_take] at q4
    refine ⟨i + 1, by omega, by omega, ?_⟩
    rw [round_go, q1, q2]
    simp only [Option.getD_some]
    have d6 : decide (((dq : Nat) : Int) < 0) = false := dec_f (by omega)
    rcases q3 with ⟨g, e⟩ | ⟨g, e⟩ | ⟨g, g2, e⟩
    · have b1 : ((x.toNat : Int) == 40) = true := by rw [g]; rfl
      have d4 : IntKind.i64.wrap ((dp : Int) + 1) = (dq : Int) := (wrap64 (by omega) (by omega)).trans (by omega)
      simp only [go_sem, ↓reduceIte, d1, d3, d4, d6, b1, ba_get, hx]
    · have b1 : ((x.toNat : Int) == 40) = false := by rw [g]; rfl
      have b2 : ((x.toNat : Int) == 41) = true := by rw [g]; rfl
      have d4 : IntKind.i64.wrap ((dp : Int) - 1) = (dq : Int) := (wrap64 (by omega) (by omega)).trans (by omega)
      simp only [go_sem, ↓reduceIte, d1, d3, d4, d6, b1, b2, ba_get, hx]
    · have b1 : ((x.toNat : Int) == 40) = false := beq_eq_false_iff_ne.2 g
      have b2 : ((x.toNat : Int) == 41) = false := beq_eq_false_iff_ne.2 g2
      subst e
      simp only [go_sem, ↓reduceIte, d1, d3, d6, b1, b2, ba_get, hx])
  clear hL
  subst hEnd
  rw [loopW_go, List.take_length, hX0]
  have d1 : decide ((X.data.toList.length : Int) < (X.size : Int)) = false := dec_f (by omega)
  have d2 : (((0 : Nat) : Int) == 0) = true := rfl
  have y1 := z_lpar
  have y2 := z_rpar
  have c1 : L.size + sg.size ≤ 9223372036854775807 := by omega
  have c2 : L.size + sg.size + R.size ≤ 9223372036854775807 := by omega
  have c3 : lparB.size + L.size ≤ 9223372036854775807 := by omega
  have c4 : lparB.size + L.size + rparB.size ≤ 9223372036854775807 := by omega
  have c5 : lparB.size + L.size + rparB.size + sg.size ≤ 9223372036854775807 := by omega
  have c6 : lparB.size + L.size + rparB.size + sg.size + R.size ≤ 9223372036854775807 := by omega
  have c8 : L.size + sg.size + lparB.size ≤ 9223372036854775807 := by omega
  have c9 : L.size + sg.size + lparB.size + R.size ≤ 9223372036854775807 := by omega
  have c10 : L.size + sg.size + lparB.size + R.size + rparB.size ≤ 9223372036854775807 := by omega
  have c11 : lparB.size + L.size + rparB.size + sg.size + lparB.size ≤ 9223372036854775807 := by omega
  have c12 : lparB.size + L.size + rparB.size + sg.size + lparB.size + R.size ≤ 9223372036854775807 := by omega
  have c13 : lparB.size + L.size + rparB.size + sg.size + lparB.size + R.size + rparB.size ≤ 9223372036854775807 := by omega
  simp only [Option.getD_some]
  cases q1 : beqS X ((L ++ sg) ++ R) with
  | true => simp only [go_sem, ↓reduceIte, d1, d2, q1, c1, c2, al]
  | false =>
  cases q2 : beqS X ((((lparB ++ L) ++ rparB) ++ sg) ++ R) with
  | true => simp only [go_sem, ↓reduceIte, d1, d2, q1, q2, c1, c2, c3, c4, c5, c6, al]
  | false =>
  cases q3 : beqS X ((((L ++ sg) ++ lparB) ++ R) ++ rparB) with
  | true => simp only [go_sem, ↓reduceIte, d1, d2, q1, q2, q3, c1, c2, c3, c4, c5, c6, c8, c9, c10, al]
  | false =>
  have q4 : beqS X ((((((lparB ++ L) ++ rparB) ++ sg) ++ lparB) ++ R) ++ rparB) = true := by
    rcases h4t with e | e | e | e
    · rw [beqS_iff.2 e] at q1; cases q1
    · rw [beqS_iff.2 e] at q2; cases q2
    · rw [beqS_iff.2 e] at q3; cases q3
    · exact beqS_iff.2 e
  simp only [go_sem, ↓reduceIte, d1, d2, q1, q2, q3, q4, c1, c2, c3, c4, c5, c6, c8, c9, c10, c11, c12, c13, al]
end Go.Eng
