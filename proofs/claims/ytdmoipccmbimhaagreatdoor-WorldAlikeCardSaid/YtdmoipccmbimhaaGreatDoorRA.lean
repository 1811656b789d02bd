-- own work: an evaluator of the program's code, and what it answers
import Derived.Test.YtdmoipccmbimhaaGreatDoorWellD
import Derived.Test.YtdmoipccmbimhaaGreatDoorWellA
import Derived.Test.YtdmoipccmbimhaaGreatDoorRB
set_option maxRecDepth 100000
set_option linter.unusedVariables false
set_option linter.unusedSimpArgs false
namespace Go.Eng
open Go Go.Proofs
set_option maxHeartbeats 4000000 in
theorem rdepth_ev (t : Tm) (ht : okT t) (k : Nat) (hk : k ≤ 1000) (ro : Nat) (m : Mem) (hro : ro ≤ m.length) :
    evL Tryz.prog An ro 143 [.c (encT t), .c (.v (.int .i64 k))] m = some (.c (.v (.int .i64 (min (depT t) (k + 1) : Nat))), m) := by
  induction hd : SizeOf.sizeOf t using Nat.strongRecOn generalizing t k ro m with
  | _ d ih =>
  have hlen := ht.len
  have hz := depT_eq t
  have hro1 : ro ≤ m.length + 1 := by omega
  rw [maxLen_eq] at hlen
  refine evL_by (n := 31) (by kernel_rfl) rfl fn143 rfl rfl rfl rfl ?_
  simp only [go_sem, ↓reduceIte]
  generalize hL : loopW _ _ = L
  obtain ⟨i, k1, hE, rfl⟩ := loopW_at hL (fun i : Nat => [(5, .c (.v (.int .i64 (min (depTs (t.l.take i) + 1) (k + 1) : Nat)))), (6, .c (.v (.int .i64 i)))]) (fun _ => [] :: m) (fun i => i ≤ t.l.length) (fun i => i = t.l.length ∨ k < depTs (t.l.take i) + 1) (fun i => t.l.length - i) 0
    (by simp [sets, depTs]) rfl (by omega) (by
    rintro i k1 hE
    simp only [not_or, Nat.not_lt] at hE
    obtain ⟨k2, k3⟩ := hE
    obtain ⟨x, hx⟩ : ∃ x, t.l[i]? = some x := ⟨_, List.getElem?_eq_getElem (by omega)⟩
    have c1 : decide ((i : Int) < (t.l.length : Int)) = true := dec_t (by omega)
    have c2 : decide (((min (depTs (t.l.take i) + 1) (k + 1) : Nat) : Int) ≤ (k : Int)) = true := dec_t (by omega)
    have c3 : IntKind.i64.wrap ((i : Int) + 1) = ((i + 1 : Nat) : Int) := wrap64 (by omega) (by omega)
    have c4 : IntKind.i64.wrap ((k : Int) - 1) = ((k - 1 : Nat) : Int) := (wrap64 (by omega) (by omega)).trans (by omega)
    have hmem := List.mem_of_getElem? hx
    have hsub := fun ro m hro => ih _ (by have := Tm.lt hmem; omega) x (ht.arg hmem) (k - 1) (by omega) ro m hro rfl
    have htk := depTs_take _ _ _ hx
    have hk1 : k - 1 + 1 = k := by omega
    rw [hk1] at hsub
    have c5 : IntKind.i64.wrap (1 + ((min (depT x) k : Nat) : Int)) = ((1 + min (depT x) k : Nat) : Int) := (wrap64 (by omega) (by omega)).trans (by omega)
    have c6 : (if ((1 + min (depT x) k : Nat) : Int) > ((min (depTs (t.l.take i) + 1) (k + 1) : Nat) : Int) then ((1 + min (depT x) k : Nat) : Int) else ((min (depTs (t.l.take i) + 1) (k + 1) : Nat) : Int)) = ((min (depTs (t.l.take (i + 1)) + 1) (k + 1) : Nat) : Int) := by
      split <;> omega
    refine ⟨i + 1, by omega, by omega, ?_⟩
    rw [round_go]
    simp only [go_sem, ↓reduceIte, c1, c2, c3, c4, c5, c6, hx, hsub, hro, hro1])
  clear hL
  rw [loopW_go]
  by_cases hi : i = t.l.length
  · subst hi
    have c1 : decide ((t.l.length : Int) < (t.l.length : Int)) = false := dec_f (by omega)
    simp only [go_sem, ↓reduceIte, c1]
    rw [List.take_length, ← hz]
  · have hb := hE.resolve_left hi
    have c1 : decide ((i : Int) < (t.l.length : Int)) = true := dec_t (by omega)
    have c2 : decide (((min (depTs (t.l.take i) + 1) (k + 1) : Nat) : Int) ≤ (k : Int)) = false := dec_f (by omega)
    have hle : depTs (t.l.take i) ≤ depTs t.l := by
      have := depTs_append (t.l.take i) (t.l.drop i)
      rw [List.take_append_drop] at this; omega
    have e : min (depTs (t.l.take i) + 1) (k + 1) = min (depT t) (k + 1) := by omega
    rw [e] at c2 ⊢
    simp only [go_sem, ↓reduceIte, c1, c2]
set_option maxHeartbeats 2000000 in
theorem rDepth_ev (t : Tm) (ht : okT t) (ro : Nat) (m : Mem) (hro : ro ≤ m.length) : evL Tryz.prog An ro 98 [.c (encT t)] m = some (.c (.v (.int .i64 (min (depT t) 65 : Nat))), m) := by
  refine evL_by (n := 6) (by kernel_rfl) rfl fn98 rfl rfl rfl rfl ?_
  have hro1 : ro ≤ m.length + 1 := by omega
  have h := fun ro m hro => rdepth_ev t ht 64 (by omega) ro m hro
  have e : ((64 : Nat) : Int) = 64 := rfl
  have hm : (if (65 : Int) < ((min (depT t) (64 + 1) : Nat) : Int) then (65 : Int) else ((min (depT t) (64 + 1) : Nat) : Int)) = ((min (depT t) 65 : Nat) : Int) := by split <;> omega
  simp only [e] at h
  simp only [Nat.reduceAdd] at h hm
  simp only [go_sem, ↓reduceIte, h, hro, hro1, hm]
set_option maxHeartbeats 2000000 in
theorem rSize_ev (t : Tm) (ht : okT t) (ro : Nat) (m : Mem) (hro : ro ≤ m.length) : evL Tryz.prog An ro 99 [.c (encT t)] m = some (.c (.v (.int .i64 (min (sizeT t) 4097 : Nat))), m) := by
  refine evL_by (n := 6) (by kernel_rfl) rfl fn99 rfl rfl rfl rfl ?_
  have hro1 : ro ≤ m.length + 1 := by omega
  have h := fun ro m => size_ev t ht 4096 (by omega) ro m
  have e : ((4096 : Nat) : Int) = 4096 := rfl
  have hm : (if (4097 : Int) < ((min (sizeT t) (4096 + 1) : Nat) : Int) then (4097 : Int) else ((min (sizeT t) (4096 + 1) : Nat) : Int)) = ((min (sizeT t) 4097 : Nat) : Int) := by split <;> omega
  simp only [e] at h
  simp only [Nat.reduceAdd] at h hm
  simp only [go_sem, ↓reduceIte, h, hro, hro1, hm]
def argsR (op : Int) : Int := if op = 3 then -1 else if op = 5 ∨ op = 6 then 2 else if op = 7 ∨ op = 8 then 1 else 0
set_option maxHeartbeats 2000000 in
theorem rargs_ev (op : Int) (ro : Nat) (m : Mem) : evL Tryz.prog An ro 144 [.c (.v (.int .i64 op))] m = some (.c (.v (.int .i64 (argsR op))), m) := by
  refine evL_by (n := 12) (by kernel_rfl) rfl fn144 rfl rfl rfl rfl ?_
  have hop : op = 3 ∨ op = 5 ∨ op = 6 ∨ op = 7 ∨ op = 8 ∨ (op ≠ 3 ∧ op ≠ 5 ∧ op ≠ 6 ∧ op ≠ 7 ∧ op ≠ 8) := by omega
  rcases hop with rfl | rfl | rfl | rfl | rfl | ⟨h3, h5, h6, h7, h8⟩
  case inr.inr.inr.inr.inr =>
    have d3 : (op == 3) = false := by simp [h3]
    have d5 : (op == 5) = false := by simp [h5]
    have d6 : (op == 6) = false := by simp [h6]
    have d7 : (op == 7) = false := by simp [h7]
    have d8 : (op == 8) = false := by simp [h8]
    have e1 : argsR op = 0 := by unfold argsR; rw [if_neg h3, if_neg (by omega), if_neg (by omega)]
    simp only [go_sem, ↓reduceIte, d3, d5, d6, d7, d8, e1]
  all_goals
    simp only [go_sem, ↓reduceIte, Int.reduceBEq]
    rfl
/-- what is wrong with a part: the second question -/
def bad2 (op : Int) (nz nq : Bool) : Bool := (!nq && (!(op == 1) && !(op == 3))) || (nz && (!(op == 2) && (!(op == 4) && !(op == 8))))
theorem partE_bad {op : Int} {nm : ByteArray} {nu : Int} {n : Nat} (h : (op < 1 ∨ 8 < op) ∨ (op = 2 ∧ nu < 0)) : partE op nm nu n = 7 := by
  unfold partE
  by_cases h1 : op < 1 ∨ 8 < op
  · rw [if_pos h1]
  · rw [if_neg h1, if_pos (.inr (.inr (h.resolve_left h1)))]
theorem bad2_iff {op : Int} {nm : ByteArray} {nu : Int} : bad2 op (nu != 0) (nm.toList == ByteArray.empty.toList) = true ↔ (nm.toList ≠ [] ∧ op ≠ 1 ∧ op ≠ 3) ∨ (nu ≠ 0 ∧ op ≠ 2 ∧ op ≠ 4 ∧ op ≠ 8) := by
  unfold bad2
  rw [nm_empty]
  simp
theorem partE_bad2 {op : Int} {nm : ByteArray} {nu : Int} {n : Nat} (h : bad2 op (nu != 0) (nm.toList == ByteArray.empty.toList) = true) : partE op nm nu n = 7 := by
  unfold partE
  by_cases h1 : op < 1 ∨ 8 < op
  · rw [if_pos h1]
  · rw [if_neg h1]
    rcases bad2_iff.1 h with h | h
    · rw [if_pos (.inl h)]
    · rw [if_pos (.inr (.inl h))]
theorem partE_else {op : Int} {nm : ByteArray} {nu : Int} {n : Nat} (h : ¬ ((op < 1 ∨ 8 < op) ∨ (op = 2 ∧ nu < 0))) (h2 : bad2 op (nu != 0) (nm.toList == ByteArray.empty.toList) = false) :
    partE op nm nu n = if (0 ≤ argsR op ∧ (n : Int) ≠ argsR op) ∨ 8 < n then 12 else 0 := by
  simp only [not_or] at h
  unfold partE
  have h3 : ¬ ((nm.toList ≠ [] ∧ op ≠ 1 ∧ op ≠ 3) ∨ (nu ≠ 0 ∧ op ≠ 2 ∧ op ≠ 4 ∧ op ≠ 8)) := fun h => by rw [bad2_iff.2 h] at h2; cases h2
  simp only [not_or] at h3
  rw [if_neg (by omega), if_neg (by simp only [not_or]; exact ⟨h3.1, h3.2, h.2⟩)]
  have : op = 1 ∨ op = 2 ∨ op = 3 ∨ op = 4 ∨ op = 5 ∨ op = 6 ∨ op = 7 ∨ op = 8 := by omega
  rcases this with rfl | rfl | rfl | rfl | rfl | rfl | rfl | rfl <;> simp [needsL, argsR] <;> (congr 1; apply propext; omega)
theorem firstTs_cons {x : Tm} {r : List Tm} : firstTs (x :: r) = if firstT x ≠ 0 then firstT x else firstTs r := by rw [firstTs]
theorem firstTs_drop (l : List Tm) (i : Nat) (x : Tm) (h : l[i]? = some x) : firstTs (l.drop i) = if firstT x ≠ 0 then firstT x else firstTs (l.drop (i + 1)) := by
  rw [drop_get h, firstTs_cons]
theorem firstT_eq (t : Tm) : firstT t = if partE t.op t.nm t.nu t.l.length ≠ 0 then partE t.op t.nm t.nu t.l.length else firstTs t.l := by cases t; rw [firstT]; rfl
def boxTerm (t : Tm) : V := .c (.fp [.v (.int .i64 t.op), .v (.string t.nm), .v (.int .i64 t.nu), .sl (t.l.map encT)])
attribute [go_sem] boxTerm
set_option maxHeartbeats 16000000 in
theorem rpart_ev (t : Tm) (ht : okT t) (ro : Nat) (m : Mem) (hro : ro ≤ m.length) :
    evL Tryz.prog An ro 100 [.c (encT t)] m = some (.c (.v (.int .i64 (firstT t))), m) := by
  induction hd : SizeOf.sizeOf t using Nat.strongRecOn generalizing t ro m with
  | _ d ih =>
  have hlen := ht.len
  rw [maxLen_eq] at hlen
  have hro1 : ro ≤ m.length + 1 := by omega
  have hfc := firstT_eq t
  refine evL_by (n := 91) (by kernel_rfl) rfl fn100 rfl rfl rfl rfl ?_
  refine cut ⟨[.c (encT t), boxTerm t, .c (.v (.int .i64 0))] ++ List.replicate 88 .undef, [] :: m⟩ rfl (by simp only [go_sem, ↓reduceIte, upS_n, leL_nil, leL_cons, or_true, true_or, and_self]) ?_
  by_cases h1 : (t.op < 1 ∨ 8 < t.op) ∨ (t.op = 2 ∧ t.nu < 0)
  · have e7 : firstT t = 7 := by rw [hfc, partE_bad h1]; rfl
    rw [e7]
    cases a1 : decide (t.op < 1) with
    | true => simp only [go_sem, ↓reduceIte, a1]
    | false =>
    cases a2 : decide (t.op > 8) with
    | true => simp only [go_sem, ↓reduceIte, a1, a2]
    | false =>
    have n1 := of_decide_eq_false a1
    have n2 := of_decide_eq_false a2
    have h2 := h1.resolve_left (by omega)
    have a3 : (t.op == 2) = true := by simp [h2.1]
    have a4 : decide (t.nu < 0) = true := dec_t h2.2
    simp only [go_sem, ↓reduceIte, a1, a2, a3, a4]
  · have h1' := h1
    simp only [not_or] at h1'
    obtain ⟨⟨o1, o2⟩, o3⟩ := h1'
    have a1 : decide (t.op < 1) = false := dec_f o1
    have a2 : decide (t.op > 8) = false := dec_f o2
    refine cut ⟨[.c (encT t), boxTerm t, .c (.v (.int .i64 0))] ++ List.replicate 88 .undef, [] :: m⟩ rfl ?_ ?_
    · cases a3 : (t.op == 2) with
      | true =>
        have a4 : decide (t.nu < 0) = false := dec_f (fun h => o3 ⟨by simpa using a3, h⟩)
        simp only [go_sem, ↓reduceIte, a1, a2, a3, a4, upS_n, leL_nil, leL_cons, or_true, true_or, and_self]
      | false => simp only [go_sem, ↓reduceIte, a1, a2, a3, upS_n, leL_nil, leL_cons, or_true, true_or, and_self]
    · have hop := range8 (fun h => h.elim o1 o2)
      cases hb2 : bad2 t.op (t.nu != 0) (t.nm.toList == ByteArray.empty.toList) with
      | true =>
        have e7 : firstT t = 7 := by rw [hfc, partE_bad2 hb2]; rfl
        rw [e7]
        clear hfc e7 ih
        generalize hnz : (t.nu != 0) = nz at hb2
        generalize hnq : (t.nm.toList == ByteArray.empty.toList) = nq at hb2
        rcases hop with e | e | e | e | e | e | e | e <;> rw [e] at hb2 <;> cases nz <;> cases nq <;> first | (exact absurd hb2 (by decide)) | (simp only [go_sem, ↓reduceIte, e, hnz, hnq, Int.reduceBNe])
      | false =>
        have hpe := partE_else (nm := t.nm) (nu := t.nu) (n := t.l.length) h1 hb2
        refine cut ⟨[.c (encT t), boxTerm t, .c (.v (.int .i64 0))] ++ List.replicate 88 .undef, [] :: m⟩ rfl ?_ ?_
        · clear hfc hpe ih
          generalize hnz : (t.nu != 0) = nz at hb2
          generalize hnq : (t.nm.toList == ByteArray.empty.toList) = nq at hb2
          rcases hop with e | e | e | e | e | e | e | e <;> rw [e] at hb2 <;> cases nz <;> cases nq <;> first | (exact absurd hb2 (by decide)) | (simp only [go_sem, ↓reduceIte, e, hnz, hnq, Int.reduceBNe, upS_n, leL_nil, leL_cons, or_true, true_or, and_self])
        · have ha := fun ro m => rargs_ev t.op ro m
          refine cut ⟨[.c (encT t), boxTerm t, .c (.v (.int .i64 0)), .c (.v (.int .i64 (argsR t.op)))] ++ List.replicate 87 .undef, [] :: m⟩ rfl (by simp only [go_sem, ↓reduceIte, ha, upS_n, leL_nil, leL_cons, or_true, true_or, and_self]) ?_
          clear ha
          generalize argsR t.op = aT at hpe ⊢
          by_cases h2 : (0 ≤ aT ∧ (t.l.length : Int) ≠ aT) ∨ 8 < t.l.length
          · rw [if_pos h2] at hpe
            have e12 : firstT t = 12 := by rw [hfc, hpe]; rfl
            rw [e12]
            cases g : decide (aT ≥ 0) with
            | true =>
              cases n1 : ((t.l.length : Int) != aT) with
              | true => simp only [go_sem, ↓reduceIte, g, n1]
              | false =>
                have n2 : decide ((t.l.length : Int) > 8) = true := by
                  have k1 : (t.l.length : Int) = aT := by simpa using n1
                  exact dec_t (by omega)
                simp only [go_sem, ↓reduceIte, g, n1, n2]
            | false =>
              have n2 : decide ((t.l.length : Int) > 8) = true := by
                have k1 := of_decide_eq_false g
                exact dec_t (by omega)
              simp only [go_sem, ↓reduceIte, g, n2]
          · rw [if_neg h2] at hpe
            rw [hpe, if_neg (by simp)] at hfc
            simp only [not_or] at h2
            obtain ⟨g1, g2⟩ := h2
            refine cut ⟨[.c (encT t), boxTerm t, .c (.v (.int .i64 0))] ++ List.replicate 88 .undef, [] :: m⟩ rfl ?_ ?_
            · have n2 : decide ((t.l.length : Int) > 8) = false := dec_f (by omega)
              cases g : decide (aT ≥ 0) with
              | true =>
                have k1 := of_decide_eq_true g
                have n1 : ((t.l.length : Int) != aT) = false := bne_f (by omega)
                simp only [go_sem, ↓reduceIte, g, n1, n2, upS_n, leL_nil, leL_cons, or_true, true_or, and_self]
              | false => simp only [go_sem, ↓reduceIte, g, n2, upS_n, leL_nil, leL_cons, or_true, true_or, and_self]
            · simp only [go_sem, ↓reduceIte]
              generalize hL : loopW _ _ = L
              obtain ⟨i, ⟨k1, k2⟩, hE, rfl⟩ := loopW_at hL (fun i : Nat => [(4, .c (.v (.int .i64 i)))]) (fun _ => [] :: m) (fun i => i ≤ t.l.length ∧ firstTs t.l = firstTs (t.l.drop i)) (fun i => i = t.l.length ∨ ∃ x, t.l[i]? = some x ∧ firstT x ≠ 0) (fun i => t.l.length - i) 0 rfl rfl ⟨by omega, by simp⟩ (by
                rintro i ⟨k1, k2⟩ hE
                simp only [not_or, not_exists, not_and] at hE
                obtain ⟨k3, k4⟩ := hE
                obtain ⟨x, hx⟩ : ∃ x, t.l[i]? = some x := ⟨_, List.getElem?_eq_getElem (by omega)⟩
                have c1 : decide ((i : Int) < (t.l.length : Int)) = true := dec_t (by omega)
                have c3 : IntKind.i64.wrap ((i : Int) + 1) = ((i + 1 : Nat) : Int) := wrap64 (by omega) (by omega)
                have hz : firstT x = 0 := by simpa using k4 x hx
                have hr := fun (ro : Nat) (m : Mem) (hro : ro ≤ m.length) => ih _ (by have := Tm.lt (List.mem_of_getElem? hx); omega) x (ht.arg (List.mem_of_getElem? hx)) ro m hro rfl
                rw [hz] at hr
                have c2 : ((0 : Int) != 0) = false := rfl
                refine ⟨i + 1, ⟨by omega, ?_⟩, by omega, ?_⟩
                · rw [k2, firstTs_drop _ _ _ hx, if_neg (by simp [hz])]
                · rw [round_go]
                  simp only [go_sem, ↓reduceIte, c1, c2, c3, hx, hr, hro, hro1])
              clear hL
              rw [loopW_go]
              by_cases hi : i = t.l.length
              · subst hi
                have c1 : decide ((t.l.length : Int) < (t.l.length : Int)) = false := dec_f (by omega)
                rw [hfc, k2, List.drop_length]
                simp only [go_sem, ↓reduceIte, c1, firstTs]
              · obtain ⟨x, hx, hz⟩ := hE.resolve_left hi
                have hil := (List.getElem?_eq_some_iff.1 hx).1
                have c1 : decide ((i : Int) < (t.l.length : Int)) = true := dec_t (by omega)
                have hr := fun (ro : Nat) (m : Mem) (hro : ro ≤ m.length) => ih _ (by have := Tm.lt (List.mem_of_getElem? hx); omega) x (ht.arg (List.mem_of_getElem? hx)) ro m hro rfl
                have c2 : (firstT x != 0) = true := by simpa using hz
                rw [hfc, k2, firstTs_drop _ _ _ hx, if_pos hz]
                simp only [go_sem, ↓reduceIte, c1, c2, hx, hr, hro, hro1]
set_option maxHeartbeats 4000000 in
theorem rRight_ev (t : Tm) (ht : okT t) (ro : Nat) (m : Mem) (hro : ro ≤ m.length) : evL Tryz.prog An ro 60 [.c (encT t)] m = some (.c (.v (.int .i64 (rightT t))), m) := by
  refine evL_by (n := 11) (by kernel_rfl) rfl fn60 rfl rfl rfl rfl ?_
  have hro1 : ro ≤ m.length + 1 := by omega
  have hd := fun ro m hro => rDepth_ev t ht ro m hro
  have hs := fun ro m hro => rSize_ev t ht ro m hro
  have hp := fun ro m hro => rpart_ev t ht ro m hro
  unfold rightT
  by_cases h1 : 64 < depT t
  · have d1 : decide (((min (depT t) 65 : Nat) : Int) > 64) = true := dec_t (by omega)
    simp only [go_sem, ↓reduceIte, hd, d1, hro, hro1, if_pos h1]
  · have d1 : decide (((min (depT t) 65 : Nat) : Int) > 64) = false := dec_f (by omega)
    rw [if_neg h1]
    by_cases h2 : 4096 < sizeT t
    · have d2 : decide (((min (sizeT t) 4097 : Nat) : Int) > 4096) = true := dec_t (by omega)
      simp only [go_sem, ↓reduceIte, hd, hs, d1, d2, hro, hro1, if_pos h2]
    · have d2 : decide (((min (sizeT t) 4097 : Nat) : Int) > 4096) = false := dec_f (by omega)
      simp only [go_sem, ↓reduceIte, hd, hs, hp, d1, d2, hro, hro1, if_neg h2]
end Go.Eng
set_option maxRecDepth 100000
set_option linter.unusedVariables false
set_option linter.unusedSimpArgs false
namespace Go.Eng
open Go Go.Proofs
/-! ### a way put ahead of an answer -/
def preA (p : List Int) (x : Ans) : Ans := if x.2.2 ≠ 0 then (x.1, p ++ x.2.1, x.2.2) else x
def preL (p : List Int) (x : List ByteArray × List Int × Int) : List ByteArray × List Int × Int := if x.2.2 ≠ 0 then (x.1, p ++ x.2.1, x.2.2) else x
def preW (p : List Int) (x : List Int × Int) : List Int × Int := if x.2 ≠ 0 then (p ++ x.1, x.2) else x
theorem askW_pre (p way : List Int) (frm : Int) : ∀ (i : Nat) (a b : List ByteArray), askW (p ++ way) frm i a b = preW p (askW way frm i a b)
  | i, [], b => by simp [askW, preW]
  | i, _ :: _, [] => by simp [askW, preW]
  | i, h :: hs, w :: ws => by
    simp only [askW]
    split
    · exact askW_pre p way frm (i + 1) hs ws
    · simp [preW]
theorem askW_e (way : List Int) (frm : Int) : ∀ (i : Nat) (a b : List ByteArray), (askW way frm i a b).2 = 0 ∨ (askW way frm i a b).2 = 11
  | i, [], b => by simp [askW]
  | i, _ :: _, [] => by simp [askW]
  | i, h :: hs, w :: ws => by
    simp only [askW]
    split
    · exact askW_e way frm (i + 1) hs ws
    · simp
theorem applyW_pre (p way : List Int) (f : Fu) (ok : Bool) (has : List ByteArray) : applyW (p ++ way) f ok has = preA p (applyW way f ok has) := by
  unfold applyW
  split
  · simp [preA]
  · split
    · simp [preA]
    · rw [askW_pre]
      generalize askW way 0 0 has f.args = q
      obtain ⟨a, e⟩ := q
      by_cases h : e = 0
      · simp [preW, preA, h]
      · simp [preW, preA, h]
theorem ownW_pre (s : Sg) (vs : List Va) (bs : List ByteArray) (p way : List Int) (op : Int) (nm : ByteArray) (nu : Int) (has : List ByteArray) : ownW s vs bs (p ++ way) op nm nu has = preA p (ownW s vs bs way op nm nu has) := by
  unfold ownW
  split
  · cases sortOf vs nm <;> simp [preA]
  · split
    · split <;> simp [preA]
    · split
      · exact applyW_pre p way _ _ has
      · rw [askW_pre]
        generalize askW way 0 0 has (List.replicate has.length sInt) = q
        obtain ⟨a, e⟩ := q
        by_cases h : e = 0
        · simp [preW, preA, h]
        · simp [preW, preA, h]
theorem termW_pre (s : Sg) (vs : List Va) (bs : List ByteArray) (p : List Int) : ∀ (d : Nat) (t : Tm) (way : List Int), SizeOf.sizeOf t ≤ d → termW s vs bs (p ++ way) t = preA p (termW s vs bs way t)
  | 0, t, way, h => by cases t; simp at h
  | d + 1, .mk op nm nu l, way, h => by
    have key : ∀ (l : List Tm) (way : List Int) (i : Nat), (∀ x ∈ l, SizeOf.sizeOf x ≤ d) → allW s vs bs (p ++ way) i l = preL p (allW s vs bs way i l) := by
      intro l
      induction l with
      | nil => intro way i _; simp [allW, preL]
      | cons x r ih =>
        intro way i hx
        simp only [allW]
        rw [List.append_assoc, termW_pre s vs bs p d x (way ++ [(i : Int)]) (hx x (by simp)), ih way (i + 1) (fun y hy => hx y (by simp [hy]))]
        generalize termW s vs bs (way ++ [(i : Int)]) x = q
        generalize allW s vs bs way (i + 1) r = q2
        obtain ⟨a, b, e⟩ := q
        obtain ⟨a2, b2, e2⟩ := q2
        by_cases h : e = 0 <;> by_cases h2 : e2 = 0 <;> simp [preA, preL, h, h2]
    rw [termW, termW, key l way 0 (fun x hx => by have := List.sizeOf_lt_of_mem hx; simp at h; omega)]
    generalize allW s vs bs way 0 l = q
    obtain ⟨a, b, e⟩ := q
    by_cases h : e = 0
    · have hk : preL p (a, b, e) = (a, b, e) := by simp [preL, h]
      rw [hk]
      simp only [h, ne_eq, not_true_eq_false, if_false]
      exact ownW_pre s vs bs p way op nm nu a
    · have hk : preL p (a, b, e) = (a, p ++ b, e) := by simp [preL, h]
      rw [hk]
      simp [preA, h]
theorem allW_pre (s : Sg) (vs : List Va) (bs : List ByteArray) (p : List Int) : ∀ (l : List Tm) (way : List Int) (i : Nat), allW s vs bs (p ++ way) i l = preL p (allW s vs bs way i l)
  | [], way, i => by simp [allW, preL]
  | x :: r, way, i => by
    simp only [allW]
    rw [List.append_assoc, termW_pre s vs bs p _ x (way ++ [(i : Int)]) (Nat.le_refl _), allW_pre s vs bs p r way (i + 1)]
    generalize termW s vs bs (way ++ [(i : Int)]) x = q
    generalize allW s vs bs way (i + 1) r = q2
    obtain ⟨a, b, e⟩ := q
    obtain ⟨a2, b2, e2⟩ := q2
    by_cases h : e = 0 <;> by_cases h2 : e2 = 0 <;> simp [preA, preL, h, h2]
theorem lastW_pre (s : Sg) (p way : List Int) (op : Int) (nm : ByteArray) (has : List ByteArray) : lastW s (p ++ way) op nm has = preW p (lastW s way op nm has) := by
  unfold lastW
  split
  · rw [applyW_pre]
    generalize applyW way (findF s nm).1 ((findF s nm).2 && (beqS (findF s nm).1.res sBool == true)) has = q
    obtain ⟨a, b, e⟩ := q
    by_cases h : e = 0 <;> simp [preA, preW, h]
  · split
    · exact askW_pre p way 0 0 has _
    · split
      · exact askW_pre p way 0 0 has _
      · simp [preW]
theorem claimW_pre (s : Sg) (vs : List Va) (p : List Int) : ∀ (d : Nat) (c : Cl) (bs : List ByteArray) (way : List Int), SizeOf.sizeOf c ≤ d → claimW s vs bs (p ++ way) c = preW p (claimW s vs bs way c)
  | 0, c, bs, way, h => by cases c; simp at h
  | d + 1, c, bs, way, h => by
    have key : ∀ (l : List Cl) (bs : List ByteArray) (way : List Int) (n i : Nat), (∀ x ∈ l, SizeOf.sizeOf x ≤ d) → claimsW s vs bs (p ++ way) n i l = preW p (claimsW s vs bs way n i l) := by
      intro l
      induction l with
      | nil => intro bs way n i _; simp [claimsW_nil, preW]
      | cons x r ih =>
        intro bs way n i hx
        rw [claimsW_cons, claimsW_cons, List.append_assoc, claimW_pre s vs p d x bs (way ++ [(n : Int) + i]) (hx x (by simp)), ih bs way n (i + 1) (fun y hy => hx y (by simp [hy]))]
        generalize claimW s vs bs (way ++ [(n : Int) + i]) x = q
        obtain ⟨a, e⟩ := q
        by_cases h : e = 0
        · have hk : preW p (a, e) = (a, e) := by simp [preW, h]
          rw [hk]; simp [h]
        · have hk : preW p (a, e) = (p ++ a, e) := by simp [preW, h]
          rw [hk]; simp [h, preW]
    rw [claimW_eq, claimW_eq, allW_pre, lastW_pre]
    rw [key c.ss _ way _ _ (fun x hx => by have := Cl.lt hx; omega)]
    generalize allW s vs bs way 0 c.ts = q
    generalize claimsW s vs (bindsW s bs c) way c.ts.length 0 c.ss = q2
    generalize hlw : lastW s way c.op c.nm = lw
    obtain ⟨a, b, e⟩ := q
    obtain ⟨a2, e2⟩ := q2
    by_cases h : e = 0
    · have hk : preL p (a, b, e) = (a, b, e) := by simp [preL, h]
      rw [hk]
      simp only [h, ne_eq, not_true_eq_false, if_false]
      by_cases hb : (bindB c.op && !thingS s c.so) = true
      · simp [hb, preW]
      · simp only [hb, if_false]
        by_cases h2 : e2 = 0
        · have hk2 : preW p (a2, e2) = (a2, e2) := by simp [preW, h2]
          rw [hk2]; simp [h2]
        · have hk2 : preW p (a2, e2) = (p ++ a2, e2) := by simp [preW, h2]
          rw [hk2]; simp [h2, preW]
    · have hk : preL p (a, b, e) = (a, p ++ b, e) := by simp [preL, h]
      rw [hk]
      simp [preW, h]
end Go.Eng
set_option maxRecDepth 100000
set_option linter.unusedVariables false
set_option linter.unusedSimpArgs false
namespace Go.Eng
open Go Go.Proofs
/-- a sort, or a way and an error -/
def encG (x : Ans) : C := .agg [.v (.string x.1), .sl (x.2.1.map cI), .v (.int .i64 x.2.2)]
theorem encG_cells {x : Ans} : (encG x).cells = [.v (.string x.1), .sl (x.2.1.map cI), .v (.int .i64 x.2.2)] := rfl
theorem encG_agg {x : Ans} : (encG x).isAgg = true := rfl
attribute [go_sem] encG_cells encG_agg
theorem I_cons (n : Int) (l : List Int) : C.v (.int .i64 n) :: List.map cI l = List.map cI (n :: l) := rfl
set_option maxHeartbeats 1000000 in
theorem ahead_ev (n : Int) (way : List Int) (hl : way.length ≤ 1000000) (ro : Nat) (m : Mem) :
    evL Tryz.prog An ro 101 [.c (.v (.int .i64 n)), .c (.sl (way.map cI))] m = some (.tip (some 1) ((n :: way).map cI), m) := by
  refine evL_by (n := 9) (by kernel_rfl) rfl fn101 rfl rfl rfl rfl ?_
  have h1 : (1 + way.length) * 8 ≤ 140737488355328 := by omega
  have h2 : 1 + way.length ≤ 9223372036854775807 := by omega
  simp only [go_sem, ↓reduceIte, h1, h2]
  rfl
def askedR (got want : List ByteArray) : Ans := (noS, (askW [] 0 0 got want).1, (askW [] 0 0 got want).2)
set_option maxHeartbeats 2000000 in
theorem asked_ev (got want : List ByteArray) (hw : got.length ≤ want.length) (hn : got.length ≤ 1000000) (ro : Nat) (m : Mem) (hro : ro ≤ m.length) :
    evL Tryz.prog An ro 103 [.c (.sl (got.map cS)), .c (.sl (want.map cS))] m = some (.c (encG (askedR got want)), m) := by
  refine evL_by (n := 25) (by kernel_rfl) rfl fn103 rfl rfl rfl rfl ?_
  unfold askedR
  simp only [go_sem, ↓reduceIte]
  generalize hL : loopW _ _ = L
  obtain ⟨i, ⟨k1, k2⟩, hE, rfl⟩ := loopW_at hL (fun i : Nat => [(5, .c (.v (.int .i64 i)))]) (fun _ => [(4, [.c (.v (.string ByteArray.empty)), .tip none [], .c (.v (.int .i64 0))])] :: m) (fun i => i ≤ got.length ∧ askW [] 0 0 got want = askW [] 0 i (got.drop i) (want.drop i)) (fun i => i = got.length ∨ ∃ x y, got[i]? = some x ∧ want[i]? = some y ∧ beqS x y = false) (fun i => got.length - i) 0 rfl rfl ⟨by omega, by simp⟩ (by
    rintro i ⟨k1, k2⟩ hE
    simp only [not_or, not_exists, not_and] at hE
    obtain ⟨k3, k4⟩ := hE
    obtain ⟨x, hx⟩ : ∃ x, got[i]? = some x := ⟨_, List.getElem?_eq_getElem (by omega)⟩
    obtain ⟨y, hy⟩ : ∃ y, want[i]? = some y := ⟨_, List.getElem?_eq_getElem (by omega)⟩
    have c1 : decide ((i : Int) < (got.length : Int)) = true := dec_t (by omega)
    have c3 : IntKind.i64.wrap ((i : Int) + 1) = ((i + 1 : Nat) : Int) := wrap64 (by omega) (by omega)
    have c2 : beqS x y = true := by simpa using k4 x y hx hy
    refine ⟨i + 1, ⟨by omega, ?_⟩, by omega, ?_⟩
    · rw [k2, drop_get hx, drop_get hy, askW, if_pos c2]
    · rw [round_go]
      simp only [go_sem, ↓reduceIte, c1, c2, c3, hx, hy, hro])
  clear hL
  rw [loopW_go, k2]
  by_cases hi : i = got.length
  · have c1 : decide ((i : Int) < (got.length : Int)) = false := dec_f (by omega)
    have ea : askW [] 0 i (got.drop i) (want.drop i) = ([], 0) := by
      rw [List.drop_eq_nil_of_le (by omega), askW]
      intro _ _ _ _ h; cases h
    rw [ea]
    simp only [go_sem, ↓reduceIte, c1, encG, noS, hro]
  · obtain ⟨x, y, hx, hy, c2⟩ := hE.resolve_left hi
    have c1 : decide ((i : Int) < (got.length : Int)) = true := dec_t (by omega)
    rw [drop_get hx, drop_get hy, askW, if_neg (by simp [c2])]
    simp only [go_sem, ↓reduceIte, c1, c2, hx, hy, encG, noS, cI, Int.zero_add, hro]
end Go.Eng
