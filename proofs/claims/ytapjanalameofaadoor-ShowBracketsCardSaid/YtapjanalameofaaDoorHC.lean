-- own work: an evaluator of the program's code, and what it answers
import Derived.Test.YtapjanalameofaaDoorHB
/- A term's text: package show. -/
set_option maxRecDepth 100000
set_option linter.unusedVariables false
set_option linter.unusedSimpArgs false
namespace Go.Eng
open Go Go.Proofs
theorem i64_wf {n : Int} (h : (Lit.int .i64 n).wf = true) : i64P n := by
  simp only [Lit.wf, Bool.and_eq_true, decide_eq_true_eq] at h
  have h1 : IntKind.i64.min = -9223372036854775808 := by decide
  have h2 : IntKind.i64.max = 9223372036854775807 := by decide
  unfold i64P
  omega
theorem okT_nu {t : Tm} (h : okT t) : i64P t.nu := by
  cases h with
  | mk _ _ _ _ hnu _ => exact i64_wf hnu
theorem two_list {α : Type} {l : List α} (h : l.length = 2) : ∃ a b, l = [a, b] := by
  match l, h with
  | [a, b], _ => exact ⟨a, b, rfl⟩
theorem sizeTs_mem {l : List Tm} {x : Tm} (h : x ∈ l) : sizeT x ≤ sizeTs l := by
  induction l with
  | nil => cases h
  | cons y r ih =>
    simp only [sizeTs]
    rcases List.mem_cons.1 h with rfl | h
    · omega
    · have := ih h; omega
theorem len_sizeTs : ∀ l : List Tm, l.length ≤ sizeTs l
  | [] => by simp
  | x :: r => by
    have := len_sizeTs r
    have : 1 ≤ sizeT x := by rw [sizeT_eq]; omega
    rw [sizeTs, List.length_cons]; omega
/-- the names of binders -/
structure NamesOK (ns : List ByteArray) : Prop where
  n : ns.length ≤ 1000000
  each : ∀ s ∈ ns, s.size ≤ 100
/-- a term whose text is asked for -/
structure TermOK (t : Tm) : Prop where
  ok : okT t
  right : firstT t = 0
  short : shortT t = true
  small : sizeT t ≤ 100000
theorem TermOK.arg {t x : Tm} (h : TermOK t) (hx : x ∈ t.l) : TermOK x := by
  obtain ⟨h1, h2, h3, h4⟩ := h
  have hs := (sound_of h2).arg x hx
  rw [shortT_eq, Bool.and_eq_true, List.all_eq_true] at h3
  have := sizeTs_mem hx
  rw [sizeT_eq] at h4
  exact ⟨h1.arg hx, hs, h3.1 x hx, by omega⟩
theorem TermOK.len {t : Tm} (h : TermOK t) {ns : List ByteArray} (hn : NamesOK ns) : (txtT ns t).size ≤ 20000000 := by
  have := txtT_size hn.each t h.short
  have := h.small
  omega
theorem TermOK.sum {t : Tm} (h : TermOK t) {ns : List ByteArray} (hn : NamesOK ns) : sumX (t.l.map (txtT ns)) ≤ 20000000 := by
  have h3 := h.short
  have h4 := h.small
  rw [shortT_eq, Bool.and_eq_true] at h3
  rw [sizeT_eq] at h4
  have := txtTs_size hn.each t.l (by rw [shortTs_all]; exact h3.1)
  rw [txtTs_map] at this
  omega
set_option maxHeartbeats 2000000 in
theorem stext_num (t : Tm) (ht : okT t) (e : t.op = 4) (ns : List C) (ro : Nat) (m : Mem) (hro : ro ≤ m.length) : evL Tryd.prog An ro 32 [.c (encT t), .c (.sl ns)] m = some (.c (.v (.string (digB t.nu))), m) := by
  refine evL_by (n := 113) (by kernel_rfl) rfl fn32 rfl rfl rfl rfl ?_
  have hro1 : ro ≤ m.length + 1 := by omega
  have ha := fun ro m hro => sarg_ev t ht 0 (by omega) ro m hro
  have e0 : ((0 : Nat) : Int) = 0 := rfl
  simp only [e0] at ha
  have hd := fun ro m => dtext_ev t.nu (okT_nu ht) ro m
  have hb : ∀ k : Int, (t.op == k) = ((4 : Int) == k) := fun k => by rw [e]
  simp only [go_sem, ↓reduceIte, hb, ha, hd, Int.reduceBEq, hro, hro1]
set_option maxHeartbeats 8000000 in
theorem stext_ev (ns : List ByteArray) (hn : NamesOK ns) (t : Tm) (ht : TermOK t) (ro : Nat) (m : Mem) (hro : ro ≤ m.length) :
    evL Tryd.prog An ro 32 [.c (encT t), .c (.sl (ns.map cS))] m = some (.c (.v (.string (txtT ns t))), m) := by
  induction hd : SizeOf.sizeOf t using Nat.strongRecOn generalizing t ro m with
  | _ d ih =>
  have S := sound_of ht.right
  have hro1 : ro ≤ m.length + 1 := by omega
  have hargs := fun (x : Tm) (hx : x ∈ t.l) (ro : Nat) (m : Mem) (hro : ro ≤ m.length) => ih _ (by have := Tm.lt hx; omega) x (ht.arg hx) ro m hro rfl
  have hlens := fun (x : Tm) (hx : x ∈ t.l) => (ht.arg hx).len hn
  have h0 := fun ro m hro => sarg_ev t ht.ok 0 (by omega) ro m hro
  have h1 := fun ro m hro => sarg_ev t ht.ok 1 (by omega) ro m hro
  have e0 : ((0 : Nat) : Int) = 0 := rfl
  have e1 : ((1 : Nat) : Int) = 1 := rfl
  simp only [e0] at h0
  simp only [e1] at h1
  have hnu := okT_nu ht.ok
  have hop : t.op = 1 ∨ t.op = 2 ∨ t.op = 3 ∨ t.op = 4 ∨ t.op = 5 ∨ t.op = 6 ∨ t.op = 7 ∨ t.op = 8 := by have := S.op; omega
  have hT := txtT_eq ns t
  have hnl := hn.n
  have z1 := z_plus
  have z2 := z_minus
  have z3 := z_neg
  have z4 := z_times
  have z5 := z_tick
  rw [hT]
  have happ : evL Tryd.prog An ro 32 [.c (encT t), .c (.sl (ns.map cS))] m = some (.c (.v (.string (if t.l.length = 0 then t.nm else ((t.nm ++ lparB) ++ joinX (t.l.map (txtT ns))) ++ rparB))), m) ∨ ¬ (t.op = 1 ∨ t.op = 3) := by
    by_cases he : t.op = 1 ∨ t.op = 3
    · left
      have hq := fun ro m hro => sapply_of t.nm (by have h3 := ht.short; rw [shortT_eq, Bool.and_eq_true, decide_eq_true_eq] at h3; exact h3.2) t.l (ns.map cS) (txtT ns) (by have := S.few; omega) (by have := ht.sum hn; omega) hargs ro m hro
      refine evL_by (n := 113) (by kernel_rfl) rfl fn32 rfl rfl rfl rfl ?_
      clear hT ih hargs hlens h1
      rcases he with e | e
      · have hb : ∀ k : Int, (t.op == k) = ((1 : Int) == k) := fun k => by rw [e]
        simp only [go_sem, ↓reduceIte, hb, h0, hq, Int.reduceBEq, hro, hro1]
      · have hb : ∀ k : Int, (t.op == k) = ((3 : Int) == k) := fun k => by rw [e]
        simp only [go_sem, ↓reduceIte, hb, h0, hq, Int.reduceBEq, hro, hro1]
    · exact .inr he
  rcases hop with e | e | e | e | e | e | e | e
  · rw [happ.resolve_right (by omega), e]
    simp [combT, lparB, rparB]
  · clear happ
    have hb : ∀ k : Int, (t.op == k) = ((2 : Int) == k) := fun k => by rw [e]
    have hx0 := S.bound e
    obtain ⟨n1, n2⟩ := hnu
    refine evL_by (n := 113) (by kernel_rfl) rfl fn32 rfl rfl rfl rfl ?_
    clear hT ih hargs hlens h1
    have d1 : decide (t.nu ≥ 0) = true := dec_t (by omega)
    by_cases hin : t.nu < (ns.length : Int)
    · obtain ⟨x, hx⟩ : ∃ x, ns[ns.length - 1 - t.nu.toNat]? = some x := ⟨_, List.getElem?_eq_getElem (by omega)⟩
      have d2 : decide (t.nu < (ns.length : Int)) = true := dec_t (by omega)
      have d3 : IntKind.i64.wrap ((ns.length : Int) - 1) = (ns.length : Int) - 1 := wrap64 (by omega) (by omega)
      have d4 : IntKind.i64.wrap ((ns.length : Int) - 1 - t.nu) = ((ns.length - 1 - t.nu.toNat : Nat) : Int) := (wrap64 (by omega) (by omega)).trans (by omega)
      have hC : combT ns t.op t.nm t.nu t.l (t.l.map (txtT ns)) = x := by
        unfold combT
        rw [e, if_neg (by decide), if_pos rfl, if_pos ⟨by omega, by omega⟩, List.getD_eq_getElem?_getD, hx]
        rfl
      rw [hC]
      simp only [go_sem, ↓reduceIte, hb, h0, d1, d2, d3, d4, hx, Int.reduceBEq, hro, hro1]
    · have d2 : decide (t.nu < (ns.length : Int)) = false := dec_f (by omega)
      have d3 : IntKind.i64.wrap (t.nu - (ns.length : Int)) = t.nu - (ns.length : Int) := wrap64 (by omega) (by omega)
      have hd := fun ro m => dtext_ev (t.nu - (ns.length : Int)) ⟨by omega, by omega⟩ ro m
      have hs := digB_size (t.nu - (ns.length : Int))
      have d4 : tickB.size + (digB (t.nu - (ns.length : Int))).size ≤ 9223372036854775807 := by omega
      have hC : combT ns t.op t.nm t.nu t.l (t.l.map (txtT ns)) = tickB ++ digB (t.nu - (ns.length : Int)) := by
        unfold combT
        rw [e, if_neg (by decide), if_pos rfl, if_neg (by omega)]
        rfl
      rw [hC]
      simp only [go_sem, ↓reduceIte, hb, h0, d1, d2, d3, d4, hd, Int.reduceBEq, hro, hro1]
  · rw [happ.resolve_right (by omega), e]
    simp [combT, lparB, rparB]
  · rw [stext_num t ht.ok e (ns.map cS) ro m hro, e]
    simp [combT]
  · clear happ
    have hb : ∀ k : Int, (t.op == k) = ((5 : Int) == k) := fun k => by rw [e]
    obtain ⟨a, b, hl⟩ : ∃ a b, t.l = [a, b] := two_list (S.two (.inl e))
    have ma : a ∈ t.l := by rw [hl]; simp
    have mb : b ∈ t.l := by rw [hl]; simp
    have la := hlens a ma
    have lb := hlens b mb
    have sa := fun ro m hro => sside_of a (ns.map cS) false (txtT ns a) (by omega) (hargs a ma) ro m hro
    have sb := fun ro m hro => sside_of b (ns.map cS) (sumB b) (txtT ns b) (by omega) (hargs b mb) ro m hro
    have qb := fun ro m => ssum_ev b ro m
    have za := sideX_size a (txtT ns a) false
    have zb := sideX_size b (txtT ns b) (sumB b)
    have g0 : t.l.getD 0 t0 = a := by rw [hl]; rfl
    have g1 : t.l.getD 1 t0 = b := by rw [hl]; rfl
    have hC : combT ns t.op t.nm t.nu t.l (t.l.map (txtT ns)) = (sideX a (txtT ns a) false ++ plusB) ++ sideX b (txtT ns b) (sumB b) := by
      unfold combT
      rw [e, if_neg (by decide), if_neg (by decide), if_pos rfl, g0, g1, hl]
      rfl
    rw [hC]
    rw [g0] at h0
    rw [g1] at h1
    refine evL_by (n := 113) (by kernel_rfl) rfl fn32 rfl rfl rfl rfl ?_
    clear hT hC ih hargs hlens
    generalize sideX a (txtT ns a) false = xa at sa za ⊢
    generalize sideX b (txtT ns b) (sumB b) = xb at sb zb ⊢
    have c1 : xa.size + plusB.size ≤ 9223372036854775807 := by omega
    have c2 : xa.size + plusB.size + xb.size ≤ 9223372036854775807 := by omega
    simp only [go_sem, ↓reduceIte, hb, h0, h1, sa, sb, qb, c1, c2, Int.reduceBEq, hro, hro1]
  · clear happ
    have hb : ∀ k : Int, (t.op == k) = ((6 : Int) == k) := fun k => by rw [e]
    obtain ⟨a, b, hl⟩ : ∃ a b, t.l = [a, b] := two_list (S.two (.inr e))
    have ma : a ∈ t.l := by rw [hl]; simp
    have mb : b ∈ t.l := by rw [hl]; simp
    have la := hlens a ma
    have lb := hlens b mb
    have sa := fun ro m hro => sside_of a (ns.map cS) false (txtT ns a) (by omega) (hargs a ma) ro m hro
    have sb := fun ro m hro => sside_of b (ns.map cS) (sumB b) (txtT ns b) (by omega) (hargs b mb) ro m hro
    have qb := fun ro m => ssum_ev b ro m
    have za := sideX_size a (txtT ns a) false
    have zb := sideX_size b (txtT ns b) (sumB b)
    have g0 : t.l.getD 0 t0 = a := by rw [hl]; rfl
    have g1 : t.l.getD 1 t0 = b := by rw [hl]; rfl
    have hC : combT ns t.op t.nm t.nu t.l (t.l.map (txtT ns)) = (sideX a (txtT ns a) false ++ minusB) ++ sideX b (txtT ns b) (sumB b) := by
      unfold combT
      rw [e, if_neg (by decide), if_neg (by decide), if_neg (by decide), if_pos rfl, g0, g1, hl]
      rfl
    rw [hC]
    rw [g0] at h0
    rw [g1] at h1
    refine evL_by (n := 113) (by kernel_rfl) rfl fn32 rfl rfl rfl rfl ?_
    clear hT hC ih hargs hlens
    generalize sideX a (txtT ns a) false = xa at sa za ⊢
    generalize sideX b (txtT ns b) (sumB b) = xb at sb zb ⊢
    have c1 : xa.size + minusB.size ≤ 9223372036854775807 := by omega
    have c2 : xa.size + minusB.size + xb.size ≤ 9223372036854775807 := by omega
    simp only [go_sem, ↓reduceIte, hb, h0, h1, sa, sb, qb, c1, c2, Int.reduceBEq, hro, hro1]
  · clear happ
    have hb : ∀ k : Int, (t.op == k) = ((7 : Int) == k) := fun k => by rw [e]
    obtain ⟨a, hl⟩ : ∃ a, t.l = [a] := List.length_eq_one_iff.1 (S.one (.inl e))
    have ma : a ∈ t.l := by rw [hl]; simp
    have la := hlens a ma
    have sa := fun br ro m hro => sside_of a (ns.map cS) br (txtT ns a) (by omega) (hargs a ma) ro m hro
    have qa := fun ro m => ssum_ev a ro m
    have za := fun br => sideX_size a (txtT ns a) br
    have g0 : t.l.getD 0 t0 = a := by rw [hl]; rfl
    have hC : combT ns t.op t.nm t.nu t.l (t.l.map (txtT ns)) = negB ++ sideX a (txtT ns a) (a.op == 4 || (sumB a || a.op == 8)) := by
      unfold combT
      rw [e, if_neg (by decide), if_neg (by decide), if_neg (by decide), if_neg (by decide), if_pos rfl, g0, hl]
      rfl
    rw [hC]
    rw [g0] at h0
    refine evL_by (n := 113) (by kernel_rfl) rfl fn32 rfl rfl rfl rfl ?_
    clear hT hC ih hargs hlens
    have c1 : ∀ br, negB.size + (sideX a (txtT ns a) br).size ≤ 9223372036854775807 := fun br => by have := za br; omega
    cases d4 : (a.op == 4) <;> cases d5 : sumB a <;> cases d8 : (a.op == 8) <;> simp only [go_sem, ↓reduceIte, hb, h0, sa, qa, c1, d4, d5, d8, Int.reduceBEq, hro, hro1]
  · clear happ
    have hb : ∀ k : Int, (t.op == k) = ((8 : Int) == k) := fun k => by rw [e]
    obtain ⟨a, hl⟩ : ∃ a, t.l = [a] := List.length_eq_one_iff.1 (S.one (.inr e))
    have ma : a ∈ t.l := by rw [hl]; simp
    have la := hlens a ma
    have sa := fun br ro m hro => sside_of a (ns.map cS) br (txtT ns a) (by omega) (hargs a ma) ro m hro
    have qa := fun ro m => ssum_ev a ro m
    have za := fun br => sideX_size a (txtT ns a) br
    have g0 : t.l.getD 0 t0 = a := by rw [hl]; rfl
    have hk : okT (.mk 4 noS t.nu []) := by
      cases ht.ok with
      | mk _ _ _ _ hnu _ => exact .mk _ (by simp [Tm.l]) (by show (Lit.int .i64 4).wf = true; decide) (by simp [Tm.nm, noS, maxLen]) hnu (fun x hx => by simp [Tm.l] at hx)
    have dz := digB_size t.nu
    have sk := fun ro m hro => sside_of (.mk 4 noS t.nu []) [] false (digB t.nu) (by omega) (fun ro m hro => stext_num (.mk 4 noS t.nu []) hk rfl [] ro m hro) ro m hro
    have zk := sideX_size (.mk 4 noS t.nu []) (digB t.nu) false
    have hC : combT ns t.op t.nm t.nu t.l (t.l.map (txtT ns)) = (sideX (.mk 4 noS t.nu []) (digB t.nu) false ++ timesB) ++ sideX a (txtT ns a) (sumB a || a.op == 8) := by
      unfold combT
      rw [e, if_neg (by decide), if_neg (by decide), if_neg (by decide), if_neg (by decide), if_neg (by decide), if_pos rfl, g0, hl]
      rfl
    rw [hC]
    rw [g0] at h0
    rw [encT_mk] at sk
    simp only [cI, cS, List.map_nil, noS] at sk zk ⊢
    refine evL_by (n := 113) (by kernel_rfl) rfl fn32 rfl rfl rfl rfl ?_
    clear hT hC ih hargs hlens
    generalize sideX (.mk 4 ByteArray.empty t.nu []) (digB t.nu) false = xk at sk zk ⊢
    have c1 : xk.size + timesB.size ≤ 9223372036854775807 := by omega
    have c2 : ∀ br, xk.size + timesB.size + (sideX a (txtT ns a) br).size ≤ 9223372036854775807 := fun br => by have := za br; omega
    cases d5 : sumB a <;> cases d8 : (a.op == 8) <;> simp only [go_sem, ↓reduceIte, hb, h0, sa, sk, qa, c1, c2, d5, d8, Int.reduceBEq, hro, hro1]
end Go.Eng
/- A term's text: the reference. -/
set_option maxRecDepth 100000
set_option linter.unusedVariables false
set_option linter.unusedSimpArgs false
namespace Go.Eng
open Go Go.Proofs
theorem i01 : ((0 : Int) ≤ 1) = True := by simp
set_option maxHeartbeats 8000000 in
theorem rterm_ev (ns : List ByteArray) (hn : NamesOK ns) (t : Tm) (ht : TermOK t) (ro : Nat) (m : Mem) (hro : ro ≤ m.length) :
    evL Tryd.prog An ro 33 [.c (encT t), .c (.sl (ns.map cS))] m = some (.c (.v (.string (txtT ns t))), m) := by
  induction hd : SizeOf.sizeOf t using Nat.strongRecOn generalizing t ro m with
  | _ d ih =>
  have S := sound_of ht.right
  have hro1 : ro ≤ m.length + 1 := by omega
  have hargs := fun (x : Tm) (hx : x ∈ t.l) (ro : Nat) (m : Mem) (hro : ro ≤ m.length) => ih _ (by have := Tm.lt hx; omega) x (ht.arg hx) ro m hro rfl
  have hlens := fun (x : Tm) (hx : x ∈ t.l) => (ht.arg hx).len hn
  have hnu := okT_nu ht.ok
  have hop : t.op = 1 ∨ t.op = 2 ∨ t.op = 3 ∨ t.op = 4 ∨ t.op = 5 ∨ t.op = 6 ∨ t.op = 7 ∨ t.op = 8 := by have := S.op; omega
  have hT := txtT_eq ns t
  have hnl := hn.n
  have z1 := z_plus
  have z2 := z_minus
  have z3 := z_neg
  have z4 := z_times
  have z5 := z_tick
  rw [hT]
  have happ : evL Tryd.prog An ro 33 [.c (encT t), .c (.sl (ns.map cS))] m = some (.c (.v (.string (if t.l.length = 0 then t.nm else ((t.nm ++ lparB) ++ joinX (t.l.map (txtT ns))) ++ rparB))), m) ∨ ¬ (t.op = 1 ∨ t.op = 3) := by
    by_cases he : t.op = 1 ∨ t.op = 3
    · left
      have h100 : t.nm.size ≤ 100 := by have h3 := ht.short; rw [shortT_eq, Bool.and_eq_true, decide_eq_true_eq] at h3; exact h3.2
      have hsum := ht.sum hn
      have hj := joinX_size (t.l.map (txtT ns))
      have hq := fun ro m hro => rlist_of t.l (ns.map cS) (txtT ns) (by have := S.few; omega) (by omega) hargs ro m hro
      have hbr := fun ro m => brackets_ev (joinX (t.l.map (txtT ns))) (by omega) ro m
      have z6 := z_lpar
      have z7 := z_rpar
      have c1 : t.nm.size + (lparB.size + (joinX (t.l.map (txtT ns))).size + rparB.size) ≤ 9223372036854775807 := by omega
      have c2 : ((t.nm ++ lparB) ++ joinX (t.l.map (txtT ns))) ++ rparB = t.nm ++ ((lparB ++ joinX (t.l.map (txtT ns))) ++ rparB) := by simp only [cat_assoc]
      rw [c2]
      generalize joinX (t.l.map (txtT ns)) = xj at hq hbr c1 ⊢
      refine evL_by (n := 144) (by kernel_rfl) rfl fn33 rfl rfl rfl rfl ?_
      clear hT ih hargs hlens c2 hj hsum
      by_cases hl0 : t.l.length = 0
      · have d0 : ((t.l.length : Int) == 0) = true := by simp [hl0]
        rw [if_pos hl0]
        rcases he with e | e
        · have hb : ∀ k : Int, (t.op == k) = ((1 : Int) == k) := fun k => by rw [e]
          simp only [go_sem, ↓reduceIte, hb, d0, Int.reduceBEq, hro, hro1]
        · have hb : ∀ k : Int, (t.op == k) = ((3 : Int) == k) := fun k => by rw [e]
          simp only [go_sem, ↓reduceIte, hb, d0, Int.reduceBEq, hro, hro1]
      · have d0 : ((t.l.length : Int) == 0) = false := by rw [beq_eq_false_iff_ne]; omega
        rw [if_neg hl0]
        rcases he with e | e
        · have hb : ∀ k : Int, (t.op == k) = ((1 : Int) == k) := fun k => by rw [e]
          simp only [go_sem, ↓reduceIte, hb, d0, hq, hbr, c1, Int.reduceBEq, hro, hro1]
        · have hb : ∀ k : Int, (t.op == k) = ((3 : Int) == k) := fun k => by rw [e]
          simp only [go_sem, ↓reduceIte, hb, d0, hq, hbr, c1, Int.reduceBEq, hro, hro1]
    · exact .inr he
  rcases hop with e | e | e | e | e | e | e | e
  · rw [happ.resolve_right (by omega), e]
    simp [combT, lparB, rparB]
  · clear happ
    have hb : ∀ k : Int, (t.op == k) = ((2 : Int) == k) := fun k => by rw [e]
    have hbd := S.bound e
    obtain ⟨n1, n2⟩ := hnu
    refine evL_by (n := 144) (by kernel_rfl) rfl fn33 rfl rfl rfl rfl ?_
    clear hT ih hargs hlens
    by_cases hin : t.nu < (ns.length : Int)
    · obtain ⟨x, hx⟩ : ∃ x, ns[ns.length - 1 - t.nu.toNat]? = some x := ⟨_, List.getElem?_eq_getElem (by omega)⟩
      have d2 : decide (t.nu < (ns.length : Int)) = true := dec_t (by omega)
      have d3 : IntKind.i64.wrap ((ns.length : Int) - 1) = (ns.length : Int) - 1 := wrap64 (by omega) (by omega)
      have d4 : IntKind.i64.wrap ((ns.length : Int) - 1 - t.nu) = ((ns.length - 1 - t.nu.toNat : Nat) : Int) := (wrap64 (by omega) (by omega)).trans (by omega)
      have hC : combT ns t.op t.nm t.nu t.l (t.l.map (txtT ns)) = x := by
        unfold combT
        rw [e, if_neg (by decide), if_pos rfl, if_pos ⟨by omega, by omega⟩, List.getD_eq_getElem?_getD, hx]
        rfl
      rw [hC]
      simp only [go_sem, ↓reduceIte, hb, d2, d3, d4, hx, Int.reduceBEq, hro, hro1]
    · have d2 : decide (t.nu < (ns.length : Int)) = false := dec_f (by omega)
      have d3 : IntKind.i64.wrap (t.nu - (ns.length : Int)) = t.nu - (ns.length : Int) := wrap64 (by omega) (by omega)
      have hd := fun ro m => bdigits_ev (t.nu - (ns.length : Int)) ⟨by omega, by omega⟩ ro m
      have hs := digB_size (t.nu - (ns.length : Int))
      have d4 : tickB.size + (digB (t.nu - (ns.length : Int))).size ≤ 9223372036854775807 := by omega
      have hC : combT ns t.op t.nm t.nu t.l (t.l.map (txtT ns)) = tickB ++ digB (t.nu - (ns.length : Int)) := by
        unfold combT
        rw [e, if_neg (by decide), if_pos rfl, if_neg (by omega)]
        rfl
      rw [hC]
      simp only [go_sem, ↓reduceIte, hb, d2, d3, d4, hd, Int.reduceBEq, hro, hro1]
  · rw [happ.resolve_right (by omega), e]
    simp [combT, lparB, rparB]
  · clear happ
    have hb : ∀ k : Int, (t.op == k) = ((4 : Int) == k) := fun k => by rw [e]
    have hd := fun ro m => bdigits_ev t.nu hnu ro m
    have hC : combT ns t.op t.nm t.nu t.l (t.l.map (txtT ns)) = digB t.nu := by
      unfold combT
      rw [e, if_pos rfl]
    rw [hC]
    refine evL_by (n := 144) (by kernel_rfl) rfl fn33 rfl rfl rfl rfl ?_
    clear hT hC ih hargs hlens
    simp only [go_sem, ↓reduceIte, hb, hd, Int.reduceBEq, hro, hro1]
  · clear happ
    have hb : ∀ k : Int, (t.op == k) = ((5 : Int) == k) := fun k => by rw [e]
    obtain ⟨a, b, hl⟩ : ∃ a b, t.l = [a, b] := two_list (S.two (.inl e))
    have ma : a ∈ t.l := by rw [hl]; simp
    have mb : b ∈ t.l := by rw [hl]; simp
    have la := hlens a ma
    have lb := hlens b mb
    have sa := fun ro m hro => rside_of a (ns.map cS) false (txtT ns a) (by omega) (hargs a ma) ro m hro
    have sb := fun ro m hro => rside_of b (ns.map cS) (sumB b) (txtT ns b) (by omega) (hargs b mb) ro m hro
    have qb := fun ro m => rsum_ev b ro m
    have za := sideX_size a (txtT ns a) false
    have zb := sideX_size b (txtT ns b) (sumB b)
    have g0 : t.l.getD 0 t0 = a := by rw [hl]; rfl
    have g1 : t.l.getD 1 t0 = b := by rw [hl]; rfl
    have hC : combT ns t.op t.nm t.nu t.l (t.l.map (txtT ns)) = (sideX a (txtT ns a) false ++ plusB) ++ sideX b (txtT ns b) (sumB b) := by
      unfold combT
      rw [e, if_neg (by decide), if_neg (by decide), if_pos rfl, g0, g1, hl]
      rfl
    rw [hC]
    have hx0 : t.l[0]? = some a := by rw [hl]; rfl
    have hx1 : t.l[1]? = some b := by rw [hl]; rfl
    refine evL_by (n := 144) (by kernel_rfl) rfl fn33 rfl rfl rfl rfl ?_
    clear hT hC ih hargs hlens
    generalize sideX a (txtT ns a) false = xa at sa za ⊢
    generalize sideX b (txtT ns b) (sumB b) = xb at sb zb ⊢
    have c1 : xa.size + plusB.size ≤ 9223372036854775807 := by omega
    have c2 : xa.size + plusB.size + xb.size ≤ 9223372036854775807 := by omega
    simp only [go_sem, ↓reduceIte, hb, i01, hx0, hx1, sa, sb, qb, c1, c2, Int.reduceBEq, hro, hro1]
  · clear happ
    have hb : ∀ k : Int, (t.op == k) = ((6 : Int) == k) := fun k => by rw [e]
    obtain ⟨a, b, hl⟩ : ∃ a b, t.l = [a, b] := two_list (S.two (.inr e))
    have ma : a ∈ t.l := by rw [hl]; simp
    have mb : b ∈ t.l := by rw [hl]; simp
    have la := hlens a ma
    have lb := hlens b mb
    have sa := fun ro m hro => rside_of a (ns.map cS) false (txtT ns a) (by omega) (hargs a ma) ro m hro
    have sb := fun ro m hro => rside_of b (ns.map cS) (sumB b) (txtT ns b) (by omega) (hargs b mb) ro m hro
    have qb := fun ro m => rsum_ev b ro m
    have za := sideX_size a (txtT ns a) false
    have zb := sideX_size b (txtT ns b) (sumB b)
    have g0 : t.l.getD 0 t0 = a := by rw [hl]; rfl
    have g1 : t.l.getD 1 t0 = b := by rw [hl]; rfl
    have hC : combT ns t.op t.nm t.nu t.l (t.l.map (txtT ns)) = (sideX a (txtT ns a) false ++ minusB) ++ sideX b (txtT ns b) (sumB b) := by
      unfold combT
      rw [e, if_neg (by decide), if_neg (by decide), if_neg (by decide), if_pos rfl, g0, g1, hl]
      rfl
    rw [hC]
    have hx0 : t.l[0]? = some a := by rw [hl]; rfl
    have hx1 : t.l[1]? = some b := by rw [hl]; rfl
    refine evL_by (n := 144) (by kernel_rfl) rfl fn33 rfl rfl rfl rfl ?_
    clear hT hC ih hargs hlens
    generalize sideX a (txtT ns a) false = xa at sa za ⊢
    generalize sideX b (txtT ns b) (sumB b) = xb at sb zb ⊢
    have c1 : xa.size + minusB.size ≤ 9223372036854775807 := by omega
    have c2 : xa.size + minusB.size + xb.size ≤ 9223372036854775807 := by omega
    simp only [go_sem, ↓reduceIte, hb, i01, hx0, hx1, sa, sb, qb, c1, c2, Int.reduceBEq, hro, hro1]
  · clear happ
    have hb : ∀ k : Int, (t.op == k) = ((7 : Int) == k) := fun k => by rw [e]
    obtain ⟨a, hl⟩ : ∃ a, t.l = [a] := List.length_eq_one_iff.1 (S.one (.inl e))
    have ma : a ∈ t.l := by rw [hl]; simp
    have la := hlens a ma
    have sa := fun br ro m hro => rside_of a (ns.map cS) br (txtT ns a) (by omega) (hargs a ma) ro m hro
    have qa := fun ro m => rsum_ev a ro m
    have za := fun br => sideX_size a (txtT ns a) br
    have g0 : t.l.getD 0 t0 = a := by rw [hl]; rfl
    have hC : combT ns t.op t.nm t.nu t.l (t.l.map (txtT ns)) = negB ++ sideX a (txtT ns a) (a.op == 4 || (sumB a || a.op == 8)) := by
      unfold combT
      rw [e, if_neg (by decide), if_neg (by decide), if_neg (by decide), if_neg (by decide), if_pos rfl, g0, hl]
      rfl
    rw [hC]
    have hx0 : t.l[0]? = some a := by rw [hl]; rfl
    refine evL_by (n := 144) (by kernel_rfl) rfl fn33 rfl rfl rfl rfl ?_
    clear hT hC ih hargs hlens
    have c1 : ∀ br, negB.size + (sideX a (txtT ns a) br).size ≤ 9223372036854775807 := fun br => by have := za br; omega
    cases d4 : (a.op == 4) <;> cases d5 : sumB a <;> cases d8 : (a.op == 8) <;> simp only [go_sem, ↓reduceIte, hb, hx0, sa, qa, c1, d4, d5, d8, Int.reduceBEq, hro, hro1]
  · clear happ
    have hb : ∀ k : Int, (t.op == k) = ((8 : Int) == k) := fun k => by rw [e]
    obtain ⟨a, hl⟩ : ∃ a, t.l = [a] := List.length_eq_one_iff.1 (S.one (.inr e))
    have ma : a ∈ t.l := by rw [hl]; simp
    have la := hlens a ma
    have sa := fun br ro m hro => rside_of a (ns.map cS) br (txtT ns a) (by omega) (hargs a ma) ro m hro
    have qa := fun ro m => rsum_ev a ro m
    have za := fun br => sideX_size a (txtT ns a) br
    have g0 : t.l.getD 0 t0 = a := by rw [hl]; rfl
    have dz := digB_size t.nu
    have hd := fun ro m => bdigits_ev t.nu hnu ro m
    have hbr := fun ro m => brackets_ev (digB t.nu) (by omega) ro m
    have z6 := z_lpar
    have z7 := z_rpar
    have hC : combT ns t.op t.nm t.nu t.l (t.l.map (txtT ns)) = (sideX (.mk 4 noS t.nu []) (digB t.nu) false ++ timesB) ++ sideX a (txtT ns a) (sumB a || a.op == 8) := by
      unfold combT
      rw [e, if_neg (by decide), if_neg (by decide), if_neg (by decide), if_neg (by decide), if_neg (by decide), if_pos rfl, g0, hl]
      rfl
    rw [hC]
    have hx0 : t.l[0]? = some a := by rw [hl]; rfl
    rw [sideX_eq]
    have hlow : lowT (.mk 4 noS t.nu []) = decide (t.nu < 0) := rfl
    rw [hlow]
    refine evL_by (n := 144) (by kernel_rfl) rfl fn33 rfl rfl rfl rfl ?_
    clear hT hC ih hargs hlens
    have c1 : lparB.size + (digB t.nu).size + rparB.size + timesB.size ≤ 9223372036854775807 := by omega
    have c2 : ∀ br, lparB.size + (digB t.nu).size + rparB.size + timesB.size + (sideX a (txtT ns a) br).size ≤ 9223372036854775807 := fun br => by have := za br; omega
    have c3 : (digB t.nu).size + timesB.size ≤ 9223372036854775807 := by omega
    have c4 : ∀ br, (digB t.nu).size + timesB.size + (sideX a (txtT ns a) br).size ≤ 9223372036854775807 := fun br => by have := za br; omega
    cases d0 : decide (t.nu < 0) <;> cases d5 : sumB a <;> cases d8 : (a.op == 8) <;> simp only [go_sem, ↓reduceIte, hb, hx0, sa, hd, hbr, qa, c1, c2, c3, c4, d0, d5, d8, Int.reduceBEq, hro, hro1]
end Go.Eng
