-- Written by this session's own program over the kit's printer: externals and laid facts are by hand. Not trusted: Lean checks it.
import Derived.Test.YtjmbdejejlcklaaDoorPrint0
import Derived.Test.YtjmbdejejlcklaaDoorPrint1
import Derived.Test.YtjmbdejejlcklaaDoorPrint2
namespace Go.Proofs.YtjmbdejejlcklaaDoor.Print
open Go.Proofs.YtjmbdejejlcklaaDoor.Aux Go.Proofs.YtjmbdejejlcklaaDoor.Spec
open Go.RowKit Go.Proofs.YtjmbdejejlcklaaDoorW.PrintWords Go.Proofs.YtjmbdejejlcklaaDoorW.PrintLast Go.Proofs.YtjmbdejejlcklaaDoorW.PrintMore
attribute [local go_sem] max2_int min2_int max_two min_two max_three min_three max_four min_four   -- for this text's walks alone
set_option linter.unusedVariables false
set_option linter.unusedSimpArgs false

/-! ### well_room_term: function 26 -/
-- EXT (sequitur/well.room).term; kind=0
theorem int_cells {w : World} {A : Option Addr} {l : List Int} (h : Kd.C (Kd.int .i64) w A l.length l) : ∀ b, A = some b → ∀ (j : Nat) (u : Value), (l.map fun x => Value.int .i64 x)[j]? = some u → w.cell? (b.add j) = some u := by
 rintro b rfl j u hj
 rw [List.getElem?_map, Option.map_eq_some_iff] at hj
 obtain ⟨x, hx, rfl⟩ := hj
 have hlt := (List.getElem?_eq_some_iff.1 hx).1
 obtain ⟨ad, e, hc⟩ := h.2.2 (by omega)
 cases e
 obtain ⟨cs, hl, hp, hi⟩ := hc j x hx
 obtain rfl : cs = [Value.int .i64 x] := hp
 simpa [Kd.int, Kd.scalar] using hi 0 _ rfl
theorem no_addr {α : Type} {d : Kd α} {w : World} {A : Option Addr} {l : List α} (h : Kd.C d w A l.length l) : A = none → l.length = 0 ∧ l.length = 0 := by
 rintro rfl
 rcases Nat.eq_zero_or_pos l.length with h0 | h0
 ·
  exact ⟨h0, h0⟩
 ·
  obtain ⟨ad, e, _⟩ := h.2.2 h0
  cases e
set_option maxRecDepth 100000 in
set_option maxHeartbeats 4000000 in
theorem down_any (base : Nat) (v : Value) (l : List Int) (x : Int) (w : World) (hR : Kd.R (Kd.int .i64) 3 w base (fun _ => True) v l) (hb : base ≤ w.heap.size) (hl : l.length ≤ 1000000) :
  Calls Tryd.prog 67 #[v, .int .i64 x] w fun e w' => ∃ v', e = .returned v' ∧ Kd.R (Kd.int .i64) 3 w' base (fun _ => True) v' (l ++ [x]) ∧ Below w.heap.size w w' := by
 obtain ⟨A, c, rfl⟩ := Kd.R_slice hR
 obtain ⟨_, hlc, hC⟩ := Kd.R_reads' hR
 have hcells := int_cells (Kd.C_alloc hC (.cells #[.int .i64 x] 3))
 have hno := no_addr hC
 obtain ⟨i0, hi, hz⟩ := Option.map_eq_some_iff.1 (show (Tryd.prog.info? 3).map (fun i => (i.zero, i.size, i.bytes)) = some (some (.int .i64 0), 1, 8) by kernel_rfl)
 simp only [Prod.mk.injEq] at hz
 obtain ⟨hz0, hz1, hz2⟩ := hz
 have hn0 : 0 ≤ (l.length : Int) := by omega
 have hlc1 : (l.length : Int) ≤ (c : Int) := by omega
 have HC := Aside0.mk hcells
 have HN := Aside0.mk hno
 have HI := Aside0.mk hi
 have HZ0 := Aside0.mk hz0
 have HZ1 := Aside0.mk hz1
 have HZ2 := Aside0.mk hz2
 clear hR hC hcells hno hi hz0 hz1 hz2
 go_enter Tryd.func67, Tryd.ntmps67
 go_wp2_with (first | ((with_reducible refine gate_builtin (b := .append) (xs := #[.tmp 10, .tmp 12]) rfl ?_); at_builtin; refine wpList_append_grows _ rfl (.tmp 10) (.tmp 12) 33 rfl 3 i0 (.int .i64 0) 1 8 Tryd.underlying33 HI.out HZ0.out HZ1.out HZ2.out rfl (by decide) A l.length l.length (l.map fun x => Value.int .i64 x) rfl HN.out (by simp) HC.out ⟨w.heap.size, 0, none⟩ 1 1 [.int .i64 x] rfl rfl ?c1 ?c2 (by omega) (by unfold maxLen; omega) (by omega) ?_))
 case c2 => rfl
 intro v' w' ho hg
 have hR : Kd.R (Kd.int .i64) 3 w' (w.heap.size + 1) (fun _ => True) v' (l ++ [x]) := Kd.R_of_own (by rw [List.length_append, List.length_singleton]; simpa [encs] using ho) (fun _ _ => trivial)
 have HR := Aside0.mk (Kd.R_lower hR (show base ≤ w.heap.size + 1 by omega))
 have HB := Aside0.mk (((Below.refl w.heap.size w).alloc (Nat.le_refl _) (.cells #[.int .i64 x] 3)).grown hg (by simp) (fun k e => by cases e))
 clear ho hg hR
 go_wp2
 go_ret
 exact ⟨_, rfl, HR.out, HB.out⟩
/-- The first of some sorts that is not as asked: its place. -/
def askL : List ByteArray → List ByteArray → Nat → Option Nat
 | _, [], _ => none
 | [], _ :: _, i => some i
 | h :: hs, x :: ws, i => if h.toList == x.toList then askL hs ws (i + 1) else some i
/-- What is told of it. -/
def askR (way : List Int) (n : Int) : Option Nat → List Int × Int
 | none => ([], 0)
 | some i => (way ++ [n + i], 11)
theorem askL_step (hs ws : List ByteArray) (i : Nat) (h1 : i < hs.length) (h2 : i < ws.length) :
  askL (hs.drop i) (ws.drop i) i = if (hs[i].toList == ws[i].toList) = true then askL (hs.drop (i + 1)) (ws.drop (i + 1)) (i + 1) else some i := by
 rw [List.drop_eq_getElem_cons h1, List.drop_eq_getElem_cons h2, askL]
theorem str_at {w : World} {A : Option Addr} {l : List ByteArray} (h : Kd.C Kd.string w A l.length l) (i : Nat) (hi : i < l.length) : ∃ ad, A = some ad ∧ w.cell? (ad.add i) = some (.string l[i]) := by
 obtain ⟨ad, e, hx⟩ := Kd.at_string h (i : Int) (by omega) (by omega)
 rw [Int.toNat_natCast] at hx
 refine ⟨ad, e, hx.trans ?_⟩
 unfold rdOf
 rw [Int.toNat_natCast, List.getD_eq_getElem?_getD, List.getElem?_eq_getElem hi]; rfl
/-- How a walk ends that tells a way and a number. -/
def WayEnd (base : Nat) (w : World) (l : List Int) (n : Int) (e : Ending) (w' : World) : Prop := ∃ v', e = .returned (.tuple #[v', .int .i64 n]) ∧ Kd.R (Kd.int .i64) 3 w' base (fun _ => True) v' l ∧ Below w.heap.size w w'
set_option maxRecDepth 100000 in
set_option maxHeartbeats 4000000 in
theorem ask_any (base : Nat) (v : Value) (way : List Int) (n : Int) (Ah : Option Addr) (ch : Nat) (has : List ByteArray) (Aw : Option Addr) (cw : Nat) (wants : List ByteArray) (w : World)
  (hR : Kd.R (Kd.int .i64) 3 w base (fun _ => True) v way) (hb : base ≤ w.heap.size) (hl : way.length ≤ 1000000) (hn0 : 0 ≤ n) (hn1 : n ≤ 1000000) (hH : Kd.C Kd.string w Ah has.length has) (hhc : has.length ≤ ch) (hW : Kd.C Kd.string w Aw wants.length wants) (hwc : wants.length ≤ cw) (hlen : wants.length ≤ has.length) (hwl : wants.length ≤ 1000000) :
  Calls Tryd.prog 54 #[v, .int .i64 n, .slice Ah has.length ch, .slice Aw wants.length cw] w (WayEnd base w (askR way n (askL has wants 0)).1 (askR way n (askL has wants 0)).2) := by
 obtain ⟨A, c, rfl⟩ := Kd.R_slice hR
 have HR := Aside0.mk hR
 have HH := Aside0.mk hH
 have HW := Aside0.mk hW
 clear hR hH hW
 go_enter Tryd.func54, Tryd.ntmps54
 go_wp2
 go_loop [14] (fun u => ∃ i : Nat, u = .int .i64 i ∧ i ≤ wants.length ∧ Aside0 (askL has wants 0 = askL (has.drop i) (wants.drop i) i)) (fun u => wants.length - (intOf u).toNat)
 case atStart => exact ⟨0, rfl, Nat.zero_le _, ⟨rfl⟩⟩
 case round =>
  obtain ⟨i, rfl, hi, HA⟩ := hrel
  by_cases hlt : i < wants.length
  ·
   have hst := askL_step has wants i (by omega) hlt
   obtain ⟨ad1, rfl, hx1⟩ := str_at HH.out i (by omega)
   obtain ⟨ad2, rfl, hx2⟩ := str_at HW.out i hlt
   obtain ⟨s1, hs1⟩ : ∃ s, s = has[i]'(by omega) := ⟨_, rfl⟩
   obtain ⟨s2, hs2⟩ : ∃ s, s = wants[i] := ⟨_, rfl⟩
   rw [← hs1] at hst hx1
   rw [← hs2] at hst hx2
   clear hs1 hs2
   have hlt2 : i < has.length := by omega
   cases hq : (s1.toList == s2.toList)
   ·
    have hq2 : (s1.toList = s2.toList) = False := by simpa using hq
    have HS := Aside0.mk (HA.out.trans (hst.trans (by rw [hq])))
    have hd := fun (W : World) (hr : Kd.R (Kd.int .i64) 3 W base (fun _ => True) (.slice A way.length c) way) (hb : base ≤ W.heap.size) => down_any base (.slice A way.length c) way (n + i) W hr hb hl
    have HD := Aside0.mk hd
    clear hst HA hd
    go_wp2_with fail
    refine (HD.out _ HR.out hb).mono ?_
    rintro e w1 ⟨v1, rfl, hr1, hb1⟩
    have HR1 := Aside0.mk hr1
    have HB1 := Aside0.mk hb1
    clear hr1 hb1
    go_wp2
    go_ret2
    rw [HS.out]
    exact ⟨v1, rfl, HR1.out, HB1.out⟩
   ·
    have hq2 : s1.toList = s2.toList := by simpa using hq
    have HS := Aside0.mk (HA.out.trans (hst.trans (by rw [hq])))
    clear hst HA
    go_wp2
    go_round
    case rel => exact ⟨i + 1, by go_num, by omega, HS⟩
    case measure => simp [intOf]; omega
  ·
   obtain rfl : i = wants.length := by omega
   have HS := Aside0.mk (HA.out.trans (by rw [List.drop_length, askL]))
   clear HA
   go_wp2
   go_ret2
   rw [HS.out]
   exact ⟨_, rfl, Kd.R_nil _ _ _ _ _, Below.refl _ _⟩
theorem ret_ik {k : IntKind} {a b : Int} (h : a = b) : Ending.returned (.int k a) = .returned (.int k b) := by rw [h]
/-- The first place at which something holds; -1. -/
def idxG {α : Type} (p : α → Bool) : List α → Nat → Int
 | [], _ => -1
 | x :: l, i => if p x = true then (i : Int) else idxG p l (i + 1)
theorem idxG_step {α : Type} (p : α → Bool) (l : List α) (i : Nat) (h : i < l.length) : idxG p (l.drop i) i = if p l[i] = true then (i : Int) else idxG p (l.drop (i + 1)) (i + 1) := by
 rw [List.drop_eq_getElem_cons h, idxG]
theorem var_at {w0 w : World} {A : Option Addr} {l : List S65} (h : Kd.C k65 w0 A l.length l) (HB : Below w0.heap.size w0 w) (i : Nat) (hi : i < l.length) : ∃ ad, A = some ad ∧ w.cell? (ad.add (i * 2)) = some (.string (l[i]).f0) ∧ w.cell? ⟨(ad.add (i * 2)).block, (ad.add (i * 2)).off + 1, none⟩ = some (.string (l[i]).f1) := by
 have hrd : rd_T65 l (i : Int) = l[i] := by
  unfold rd_T65
  rw [Int.toNat_natCast, List.getD_eq_getElem?_getD, List.getElem?_eq_getElem hi]; rfl
 obtain ⟨ad, e, h0, h1⟩ := at_T65 h (i : Int) (by omega) (by omega)
 rw [hrd] at h0 h1
 rw [Int.toNat_natCast] at h0 h1
 exact ⟨ad, e, (HB.cell (World.block_lt_of_cell? w0 _ h0)).trans h0, (HB.cell (World.block_lt_of_cell? w0 _ h1)).trans h1⟩
set_option maxHeartbeats 1600000 in
theorem IndexFunc_var.any (g : Nat) (v : Value) (p : S65 → Bool) (eg : ∀ args w, (callFunc g args).run Tryd.prog w = .ok (.enter g args) w)
  (A : Option Addr) (c : Nat) (l : List S65) (w : World) (hr : Kd.C k65 w A l.length l) (hc : l.length ≤ c)
  (hg : ∀ (x : S65) (W : World), Below w.heap.size w W → Calls Tryd.prog g #[.agg #[.string x.f0, .string x.f1], v] W fun e w' => e = .returned (.bool (p x)) ∧ Below W.heap.size W w') :
  Calls Tryd.prog 49 #[.slice A l.length c, .func (.func g) #[] #[v]] w fun e w' => e = .returned (.int .i64 (idxG p l 0)) ∧ Below w.heap.size w w' := by
 have hz : l.length ≤ 9223372036854775807 := hr.2.1
 have HG := Aside0.mk hg
 have HR := Aside0.mk hr
 clear hg hr
 go_enter Tryd.func49, Tryd.ntmps49
 go_wp2
 go_loopw [8] (fun u w' => ∃ k : Nat, u = .int .i64 k ∧ k ≤ l.length ∧ Aside0 (idxG p l 0 = idxG p (l.drop k) k) ∧ Aside0 (Below w.heap.size w w')) (fun u _ => l.length - (intOf u).toNat)
 case atStart => exact ⟨0, rfl, Nat.zero_le _, ⟨rfl⟩, ⟨Below.refl _ _⟩⟩
 case round =>
  obtain ⟨k, rfl, hk, HI, HB⟩ := hrel
  by_cases hlt : k < l.length
  ·
   have hst := idxG_step p l k hlt
   obtain ⟨ad, rfl, hx0, hx1⟩ := var_at HR.out HB.out k hlt
   obtain ⟨s, hs⟩ : ∃ s, s = l[k] := ⟨_, rfl⟩
   rw [← hs] at hx0 hx1 hst
   clear hs
   have HG2 := Aside0.mk (HG.out s wr HB.out)
   cases hp : p s
   ·
    rw [hp] at HG2
    have HS := Aside0.mk (HI.out.trans (hst.trans (by rw [hp, if_neg (by decide)])))
    clear hst hp HI
    go_wp2_with fail
    refine HG2.out.mono ?_
    rintro e w1 ⟨rfl, hb1⟩
    have HB1 := Aside0.mk (below_step HB.out hb1)
    clear hb1
    go_wp2
    go_roundw
    case rel => exact ⟨k + 1, by go_num, by omega, HS, HB1⟩
    case measure => simp [intOf]; omega
   ·
    rw [hp] at HG2
    have HS := Aside0.mk (HI.out.trans (hst.trans (by rw [hp])))
    clear hst hp HI
    go_wp2_with fail
    refine HG2.out.mono ?_
    rintro e w1 ⟨rfl, hb1⟩
    have HB1 := Aside0.mk (below_step HB.out hb1)
    clear hb1
    go_wp2
    go_ret
    exact ⟨ret_ik HS.out.symm, HB1.out⟩
  ·
   obtain rfl : k = l.length := by omega
   have HS := Aside0.mk (HI.out.trans (by rw [List.drop_length, idxG]))
   clear HI
   go_wp2
   go_ret
   exact ⟨ret_ik HS.out.symm, HB.out⟩
/-- The sort of a variable. -/
def sortL : List S65 → ByteArray → ByteArray × Bool
 | [], _ => (⟨#[]⟩, false)
 | x :: l, s => if (x.f0.toList == s.toList) = true then (x.f1, true) else sortL l s
theorem sort_idx (s : ByteArray) : ∀ (l : List S65) (i : Nat), idxG (fun x => x.f0.toList == s.toList) l i = -1 ∧ sortL l s = (⟨#[]⟩, false) ∨ ∃ (j : Nat) (h : j < l.length), idxG (fun x => x.f0.toList == s.toList) l i = ((i + j : Nat) : Int) ∧ sortL l s = (l[j].f1, true)
 | [], i => .inl ⟨rfl, rfl⟩
 | x :: l, i => by
  rw [idxG, sortL]
  by_cases h : (x.f0.toList == s.toList) = true
  ·
   rw [if_pos h, if_pos h]
   exact .inr ⟨0, by simp, by simp, rfl⟩
  ·
   rw [if_neg h, if_neg h]
   rcases sort_idx s l (i + 1) with ⟨h1, h2⟩ | ⟨j, hj, h1, h2⟩
   ·
    exact .inl ⟨h1, h2⟩
   ·
    exact .inr ⟨j + 1, by simp; omega, by rw [h1]; congr 1; omega, by simpa using h2⟩
set_option maxHeartbeats 1600000 in
theorem sort_is (x : S65) (s : ByteArray) (b : Nat) (w : World) (hc : w.cell? ⟨b, 0, none⟩ = some (.string s)) :
  Calls Tryd.prog 50 #[.agg #[.string x.f0, .string x.f1], .pointer (some ⟨b, 0, none⟩)] w fun e w' => e = .returned (.bool (x.f0.toList == s.toList)) ∧ Below w.heap.size w w' := by
 have hlt := World.block_lt_of_cell? w _ hc
 have hc2 : (w.alloc (.cells #[.string x.f0, .string x.f1] 65)).cell? ⟨b, 0, none⟩ = some (.string s) := ((Below.refl w.heap.size w).alloc (Nat.le_refl _) _ |>.cell (p := ⟨b, 0, none⟩) hlt).trans hc
 clear hc
 go_enter Tryd.func50, Tryd.ntmps50
 go_wp2
 go_ret
 exact ⟨rfl, below_alloc (Below.refl _ _) _⟩
set_option maxRecDepth 100000 in
set_option maxHeartbeats 1600000 in
theorem sort_any (bv : Nat) (A : Option Addr) (c : Nat) (l : List S65) (s : ByteArray) (w : World) (hv : w.heap[bv]? = some (.cells #[.slice A l.length c] 26 (0, 0))) (hr : Kd.C k65 w A l.length l) (hc : l.length ≤ c) :
  Calls Tryd.prog 48 #[.string s, .pointer (some ⟨bv, 0, none⟩)] w fun e w' => e = .returned (.tuple #[.string (sortL l s).1, .bool (sortL l s).2]) ∧ Below w.heap.size w w' := by
 have hz : l.length ≤ 9223372036854775807 := hr.2.1
 have hvl := blk_lt hv
 have hmf : ∀ (fn : Fn) (first cap : Array Value) (w : World), (Instr.makeFunc fn first cap).run Tryd.prog w = .ok (.func fn first cap) w := fun _ _ _ _ => rfl
 have hv1 := (cells1 (blk_alloc hv (.cells #[.string s] 9))).1
 have HV := Aside0.mk hv
 have HR := Aside0.mk hr
 clear hv hr
 go_enter Tryd.func48, Tryd.ntmps48
 go_wp2_with fail
 refine (IndexFunc_var.any 50 (.pointer (some ⟨w.heap.size, 0, none⟩)) (fun x => x.f0.toList == s.toList) (enters_of Tryd.func50 (by kernel_rfl) rfl) A c l _ (Kd.C_alloc HR.out _) hc (fun x W hW => sort_is x s _ W ((hW.cell (p := ⟨w.heap.size, 0, none⟩) (by simp)).trans (cells1 (blk_new w _)).1))).mono ?_
 rintro e w1 ⟨rfl, hb⟩
 have hB := below_step (below_alloc (Below.refl w.heap.size w) (.cells #[.string s] 9)) hb
 have hv2 := (cells1 (blk_below HV.out hB)).1
 rcases sort_idx s l 0 with ⟨h1, h2⟩ | ⟨j, hj, h1, h2⟩
 ·
  rw [h1]
  have HB := Aside0.mk hB
  have H2 := Aside0.mk h2
  clear hb hB h1 h2 hv1
  go_wp2
  go_ret2
  exact ⟨by rw [H2.out]; rfl, HB.out⟩
 ·
  obtain ⟨ad, rfl, hx0, hx1⟩ := var_at HR.out hB j hj
  rw [h1, Nat.zero_add]
  obtain ⟨x, hx⟩ : ∃ x, x = l[j] := ⟨_, rfl⟩
  rw [← hx] at hx0 hx1 h2
  have HB := Aside0.mk hB
  have H2 := Aside0.mk h2
  clear hb hB h1 h2 hv1 hx
  go_wp2
  go_ret2
  exact ⟨by rw [H2.out]; rfl, HB.out⟩
theorem cell_off {W : World} {b8 b6 : Nat} (hne : b8 ≠ b6) {j : Nat} {v : Value} (h : W.cell? ⟨b8, j, none⟩ = some v) (i : Nat) (u : Value) : (W.setCell ⟨b6, i, none⟩ u).cell? ⟨b8, j, none⟩ = some v :=
 (World.cell?_of_block (Below.heap_setCell W ⟨b6, i, none⟩ u b8 hne)).trans h
/-- The first function of a name. -/
def findL : List S63 → ByteArray → S63 × Bool
 | [], _ => (z63, false)
 | f :: l, s => if f.f0.toList = s.toList then (f, true) else findL l s
theorem fun_at (l : List S63) (i : Nat) (h : i < l.length) : rd_T63 l (i : Int) = l[i] := by
 unfold rd_T63
 rw [Int.toNat_natCast, List.getD_eq_getElem?_getD, List.getElem?_eq_getElem h]; rfl
theorem find_ev (s : ByteArray) (l : List S63) (hl : l.length ≤ 9223372036854775807) : ∀ (d i : Nat), i + d = l.length → Ev (fun k => sign_Find.l0 k s l (l.length : Int) (i : Int)) ((findL (l.drop i) s).1.f0, (findL (l.drop i) s).1.f1, (findL (l.drop i) s).1.f2, (findL (l.drop i) s).2)
 | 0, i, h => by
  refine Ev.step (f := fun _ => some _) (fun k => ?_) (Ev.now _)
  simp only [sign_Find.l0]
  rw [if_neg (by omega), List.drop_of_length_le (by omega)]
  rfl
 | d + 1, i, h => by
  have hlt : i < l.length := by omega
  have ih := find_ev s l hl d (i + 1) (by omega)
  rw [List.drop_eq_getElem_cons hlt, findL]
  by_cases e : (l[i]).f0.toList = s.toList
  ·
   rw [if_pos e]
   refine Ev.step (f := fun _ => some _) (fun k => ?_) (Ev.now _)
   simp only [sign_Find.l0]
   rw [if_pos (by omega), if_pos (by omega), if_pos (by omega), fun_at l i hlt, if_pos e]
  ·
   rw [if_neg e]
   refine Ev.step (fun k => ?_) ih
   simp only [sign_Find.l0]
   rw [if_pos (by omega), if_pos (by omega), if_pos (by omega), fun_at l i hlt, if_neg e, wrap_i (by omega) (by omega)]
   rfl
/-- sign.Find, told by a plain function. -/
theorem Find_any (As : Option Addr) (cs : Nat) (sorts : List ByteArray) (Af : Option Addr) (cf : Nat) (funs : List S63) (s : ByteArray) (w : World) (P : Nat → Prop) (hs : Kd.C Kd.string w As sorts.length sorts) (hsc : sorts.length ≤ cs) (hf : Kd.F k63 w P Af funs.length funs) (hfc : funs.length ≤ cf) :
  Calls Tryd.prog 35 #[.agg #[.slice As sorts.length cs, .slice Af funs.length cf], .string s] w fun e w' => ∃ A c, e = .returned (.tuple #[.agg #[.string (findL funs s).1.f0, .slice A (findL funs s).1.f1.length c, .string (findL funs s).1.f2], .bool (findL funs s).2]) ∧ (findL funs s).1.f1.length ≤ c ∧ Kd.F Kd.string w' (fun k => P k ∨ w.heap.size ≤ k) A (findL funs s).1.f1.length (findL funs s).1.f1 ∧ Below w.heap.size w w' := by
 obtain ⟨k, hk⟩ := Ev.rounds (find_ev s funs (Kd.F_now hf).2.1 funs.length 0 (by omega))
 refine (sign_Find.calls k As cs sorts P Af cf funs s _ _ _ _ w hs hsc (Kd.V_mk hfc hf) hk).mono ?_
 rintro e w' ⟨v, rfl, hv, hb⟩
 obtain ⟨A, c, rfl⟩ := Kd.V_slice hv
 obtain ⟨_, h1, h2⟩ := Kd.V_at hv
 exact ⟨A, c, rfl, h1, h2, hb⟩
/-- A function that is a predicate, or is not: found, and of that kind. -/
def kindB (p : S63 × Bool) (pred : Bool) : Bool := p.2 && ((p.1.f2.toList == [66, 111, 111, 108]) == pred)
/-- The room of a walk: its signature's two lists, its variables' box, its binders. -/
def roomV (As : Option Addr) (ns cs : Nat) (Af : Option Addr) (nf cf bv : Nat) (Ab : Option Addr) (nb cb : Nat) : Value := .agg #[.slice As ns cs, .slice Af nf cf, .func (.func 48) #[] #[.pointer (some ⟨bv, 0, none⟩)], .slice Ab nb cb]
set_option maxRecDepth 100000 in
set_option maxHeartbeats 4000000 in
theorem room_find (As : Option Addr) (cs : Nat) (sorts : List ByteArray) (Af : Option Addr) (cf : Nat) (funs : List S63) (bv : Nat) (Ab : Option Addr) (nb cb : Nat) (s : ByteArray) (pred : Bool) (w : World) (hs : Kd.C Kd.string w As sorts.length sorts) (hsc : sorts.length ≤ cs) (hf : Kd.C k63 w Af funs.length funs) (hfc : funs.length ≤ cf) :
  Calls Tryd.prog 52 #[.agg #[.slice As sorts.length cs, .slice Af funs.length cf, .func (.func 48) #[] #[.pointer (some ⟨bv, 0, none⟩)], .slice Ab nb cb], .string s, .bool pred] w fun e w' => ∃ A c, e = .returned (.tuple #[.agg #[.string (findL funs s).1.f0, .slice A (findL funs s).1.f1.length c, .string (findL funs s).1.f2], .bool (kindB (findL funs s) pred)]) ∧ (findL funs s).1.f1.length ≤ c ∧ Kd.C Kd.string w' A (findL funs s).1.f1.length (findL funs s).1.f1 ∧ Below w.heap.size w w' := by
 have hfd := fun W (hW : Below w.heap.size w W) => Find_any As cs sorts Af cf funs s W (fun k => k < w.heap.size) (Kd.C_below hs hW) hsc (Kd.F_below (Kd.C_F (show Kd.Heap k63 from Kd.heap_iso _ (Kd.heap_pair Kd.heap_string (Kd.heap_pair (Kd.heap_slice 9 Kd.heap_string) Kd.heap_string))) hf) hW) hfc
 obtain ⟨p, hp⟩ : ∃ p, p = findL funs s := ⟨_, rfl⟩
 rw [← hp] at hfd ⊢
 obtain ⟨⟨r1, r2, r3⟩, r4⟩ := p
 dsimp only at hfd ⊢
 have HFD := Aside0.mk hfd
 clear hs hf hfd hp
 go_enter Tryd.func52, Tryd.ntmps52
 go_wp2_with fail
 refine (HFD.out _ (below_alloc (below_alloc (Below.refl _ _) _) _)).mono ?_
 rintro e w1 ⟨A2, c2, rfl, hl2, hC2, hb⟩
 have x6 : w1.heap[w.heap.size + 1]? = some (.cells #[.string ⟨#[]⟩, .slice none 0 0, .string ⟨#[]⟩] 63 (0, 0)) := blk_below (by simpa using blk_new (w.alloc (.cells #[.slice As sorts.length cs, .slice Af funs.length cf, .func (.func 48) #[] #[.pointer (some ⟨bv, 0, none⟩)], .slice Ab nb cb] 69)) (.cells #[.string ⟨#[]⟩, .slice none 0 0, .string ⟨#[]⟩] 63)) hb
 have hB : Below w.heap.size w (w1.alloc (.cells #[.string r1, .slice A2 r2.length c2, .string r3] 63)) := below_alloc (below_step (below_alloc (below_alloc (Below.refl _ _) _) _) hb) _
 have X6 := Aside0.mk (blk_alloc x6 (.cells #[.string r1, .slice A2 r2.length c2, .string r3] 63))
 have X8 := Aside0.mk (blk_new w1 (.cells #[.string r1, .slice A2 r2.length c2, .string r3] 63))
 rw [show ((w.alloc (.cells #[.slice As sorts.length cs, .slice Af funs.length cf, .func (.func 48) #[] #[.pointer (some ⟨bv, 0, none⟩)], .slice Ab nb cb] 69)).alloc (.cells #[.string ⟨#[]⟩, .slice none 0 0, .string ⟨#[]⟩] 63)).heap.size = w.heap.size + 2 by simp] at hC2
 have hC3 := Kd.F_alloc hC2 (.cells #[.string r1, .slice A2 r2.length c2, .string r3] 63)
 have hb6 := blk_lt x6
 have h86 : w1.heap.size ≠ w.heap.size + 1 := by omega
 clear hb hC2 x6 HFD
 have HB := Aside0.mk hB
 have HC3 := Aside0.mk hC3
 clear hB hC3
 cases r4 with
 | false =>
  go_wp2
  obtain ⟨b8, hb8⟩ : ∃ b8, b8 = w1.heap.size := ⟨_, rfl⟩
  rw [← hb8] at X8 h86 hb6 ⊢
  obtain ⟨W, hW⟩ : ∃ W, w1.alloc (.cells #[.string r1, .slice A2 r2.length c2, .string r3] 63) = W := ⟨_, rfl⟩
  rw [hW] at X6 X8 HB HC3 ⊢
  clear hW hb8
  obtain ⟨k0, k1, k2, _⟩ := cells3 (blk_drew X8.out)
  obtain ⟨x60, x61, x62, y60, y61, y62⟩ := cells3 X6.out

  refine start_ (n := 11) (S := fun w' => w'.cell? ⟨b8, 0, none⟩ = some (.string r1) ∧ w'.cell? ⟨b8, 1, none⟩ = some (.slice A2 r2.length c2) ∧ w'.cell? ⟨b8, 2, none⟩ = some (.string r3)) (ds := []) #[false, false, false, false, false, false, false, false, false, false, false] (by kernel_rfl) rfl rfl ⟨k0, k1, k2⟩ (fun hHeld => ?_)
  refine pure_ (i := 1) (N := some 18) (v := ?_) (a' := ?_) #[false, true, false, false, false, false, false, false, false, false, false] rfl rfl (by kernel_rfl) (fun _ _ _ h => h) (Or.inl ⟨by rfl, ?_⟩) ?_ ?_
  rotate_left
  ·
   intro w'
   go_simp
   with_reducible rfl
  rotate_left
  ·
   simp only [Act.put, List.setIfInBounds_toArray, List.set_cons_zero, List.set_cons_succ, i64_w, i32_w]
   rfl
  refine pure_ (i := 2) (N := some 19) (v := ?_) (a' := ?_) #[false, true, true, false, false, false, false, false, false, false, false] rfl rfl (by kernel_rfl) (fun _ _ _ h => h) (Or.inl ⟨by rfl, ?_⟩) ?_ ?_
  rotate_left
  ·
   intro w'
   go_simp
   with_reducible rfl
  rotate_left
  ·
   simp only [Act.put, List.setIfInBounds_toArray, List.set_cons_zero, List.set_cons_succ, i64_w, i32_w]
   rfl
  refine pure_ (i := 3) (N := some 20) (v := undef) (a' := ?_) #[false, true, true, true, false, false, false, false, false, false, false] rfl rfl (by kernel_rfl) (fun _ _ _ h => h) (Or.inr ⟨by rfl, rfl⟩) ?_ ?_
  rotate_left
  ·
   simp only [Act.put, List.setIfInBounds_toArray, List.set_cons_zero, List.set_cons_succ, i64_w, i32_w]
   rfl
  refine pure_ (i := 4) (N := some 21) (v := undef) (a' := ?_) #[false, true, true, true, true, false, false, false, false, false, false] rfl rfl (by kernel_rfl) (fun _ _ _ h => h) (Or.inr ⟨by rfl, rfl⟩) ?_ ?_
  rotate_left
  ·
   simp only [Act.put, List.setIfInBounds_toArray, List.set_cons_zero, List.set_cons_succ, i64_w, i32_w]
   rfl
  refine pure_ (i := 5) (N := some 22) (v := undef) (a' := ?_) #[false, true, true, true, true, true, false, false, false, false, false] rfl rfl (by kernel_rfl) (fun _ _ _ h => h) (Or.inr ⟨by rfl, rfl⟩) ?_ ?_
  rotate_left
  ·
   simp only [Act.put, List.setIfInBounds_toArray, List.set_cons_zero, List.set_cons_succ, i64_w, i32_w]
   rfl
  refine pure_ (i := 6) (N := some 23) (v := undef) (a' := ?_) #[false, true, true, true, true, true, true, false, false, false, false] rfl rfl (by kernel_rfl) (fun _ _ _ h => h) (Or.inr ⟨by rfl, rfl⟩) ?_ ?_
  rotate_left
  ·
   simp only [Act.put, List.setIfInBounds_toArray, List.set_cons_zero, List.set_cons_succ, i64_w, i32_w]
   rfl
  refine pure_ (i := 7) (N := some 24) (v := undef) (a' := ?_) #[false, true, true, true, true, true, true, true, false, false, false] rfl rfl (by kernel_rfl) (fun _ _ _ h => h) (Or.inr ⟨by rfl, rfl⟩) ?_ ?_
  rotate_left
  ·
   simp only [Act.put, List.setIfInBounds_toArray, List.set_cons_zero, List.set_cons_succ, i64_w, i32_w]
   rfl
  refine pure_ (i := 8) (N := some 25) (v := ?_) (a' := ?_) #[false, true, true, true, true, true, true, true, true, false, false] rfl rfl (by kernel_rfl) (fun _ _ _ h => h) (Or.inl ⟨by rfl, ?_⟩) ?_ ?_
  rotate_left
  ·
   intro w'
   go_simp
   with_reducible rfl
  rotate_left
  ·
   simp only [Act.put, List.setIfInBounds_toArray, List.set_cons_zero, List.set_cons_succ, i64_w, i32_w]
   rfl
  refine take_ (i := 0) (N := some 17) (v := ?_) (a' := ?_) #[true, true, true, true, true, true, true, true, true, false, false] rfl rfl (by kernel_rfl) (fun _ _ _ h => h) (Or.inl ⟨by rfl, ?_⟩) hHeld ?_ ?_
  rotate_left
  ·
   rintro w' ⟨s0, s1, s2⟩
   go_simp
   with_reducible rfl
  rotate_left
  ·
   simp only [Act.put, List.setIfInBounds_toArray, List.set_cons_zero, List.set_cons_succ, i64_w, i32_w]
   rfl
  refine one_ (i := 9) (N := none) #[true, true, true, true, true, true, true, true, true, true, false] rfl rfl (by kernel_rfl) (by decide) (fun K hK => ?_)
  refine skip_ (w1 := ?_) (by rfl) rfl ?_ ?_
  rotate_left
  ·
   go_simp
   rfl
  refine hK.out _ _ ⟨cell_off h86 (cell_off h86 (cell_off h86 k0 _ _) _ _) _ _, cell_off h86 (cell_off h86 (cell_off h86 k1 _ _) _ _) _ _, cell_off h86 (cell_off h86 (cell_off h86 k2 _ _) _ _) _ _⟩ (fun hHeld => ?_)
  clear hK K
  refine pure_ (i := 10) (N := some 7) (v := ?_) (a' := ?_) #[true, true, true, true, true, true, true, true, true, true, true] rfl rfl (by kernel_rfl) (fun _ _ _ h => h) (Or.inl ⟨by rfl, ?_⟩) ?_ ?_
  rotate_left
  ·
   intro w'
   go_simp
   with_reducible rfl
  rotate_left
  ·
   simp only [Act.put, List.setIfInBounds_toArray, List.set_cons_zero, List.set_cons_succ, i64_w, i32_w]
   rfl
  refine done_ (by kernel_rfl) ?_
  go_wp2
  refine bodyPost_ret (results_ct rfl _ _ (w.heap.size + 1) 63 #[.string r1, .slice A2 r2.length c2, .string r3] (0, 0) _ rfl (blk_drew (blk_put (blk_put (blk_put X6.out 0 _ rfl) 1 _ rfl) 2 _ rfl)) Tryd.underlying63 rfl (by kernel_rfl)) rfl ⟨A2, c2, rfl, hl2, ?_, ?_⟩
  ·
   exact Kd.F_now (Kd.F_drew (Kd.F_far (Kd.F_far (Kd.F_far HC3.out (fun k hk => by rcases hk with hk | hk <;> (simp; omega)) _) (fun k hk => by rcases hk with hk | hk <;> (simp; omega)) _) (fun k hk => by rcases hk with hk | hk <;> (simp; omega)) _))
  ·
   exact below_drew (below_set (below_set (below_set HB.out (by omega)) (by omega)) (by omega))
 | true =>
  go_wp2
  obtain ⟨b8, hb8⟩ : ∃ b8, b8 = w1.heap.size := ⟨_, rfl⟩
  rw [← hb8] at X8 h86 hb6 ⊢
  obtain ⟨W, hW⟩ : ∃ W, w1.alloc (.cells #[.string r1, .slice A2 r2.length c2, .string r3] 63) = W := ⟨_, rfl⟩
  rw [hW] at X6 X8 HB HC3 ⊢
  clear hW hb8
  obtain ⟨k0, k1, k2, _⟩ := cells3 (blk_drew X8.out)
  obtain ⟨x60, x61, x62, y60, y61, y62⟩ := cells3 X6.out

  refine start_ (n := 11) (S := fun w' => w'.cell? ⟨b8, 0, none⟩ = some (.string r1) ∧ w'.cell? ⟨b8, 1, none⟩ = some (.slice A2 r2.length c2) ∧ w'.cell? ⟨b8, 2, none⟩ = some (.string r3)) (ds := []) #[false, false, false, false, false, false, false, false, false, false, false] (by kernel_rfl) rfl rfl ⟨k0, k1, k2⟩ (fun hHeld => ?_)
  refine pure_ (i := 1) (N := some 18) (v := ?_) (a' := ?_) #[false, true, false, false, false, false, false, false, false, false, false] rfl rfl (by kernel_rfl) (fun _ _ _ h => h) (Or.inl ⟨by rfl, ?_⟩) ?_ ?_
  rotate_left
  ·
   intro w'
   go_simp
   with_reducible rfl
  rotate_left
  ·
   simp only [Act.put, List.setIfInBounds_toArray, List.set_cons_zero, List.set_cons_succ, i64_w, i32_w]
   rfl
  refine pure_ (i := 2) (N := some 19) (v := ?_) (a' := ?_) #[false, true, true, false, false, false, false, false, false, false, false] rfl rfl (by kernel_rfl) (fun _ _ _ h => h) (Or.inl ⟨by rfl, ?_⟩) ?_ ?_
  rotate_left
  ·
   intro w'
   go_simp
   with_reducible rfl
  rotate_left
  ·
   simp only [Act.put, List.setIfInBounds_toArray, List.set_cons_zero, List.set_cons_succ, i64_w, i32_w]
   rfl
  refine pure_ (i := 3) (N := some 20) (v := ?_) (a' := ?_) #[false, true, true, true, false, false, false, false, false, false, false] rfl rfl (by kernel_rfl) (fun _ _ _ h => h) (Or.inl ⟨by rfl, ?_⟩) ?_ ?_
  rotate_left
  ·
   intro w'
   go_simp
   with_reducible rfl
  rotate_left
  ·
   simp only [Act.put, List.setIfInBounds_toArray, List.set_cons_zero, List.set_cons_succ, i64_w, i32_w]
   rfl
  refine pure_ (i := 6) (N := some 23) (v := ?_) (a' := ?_) #[false, true, true, true, false, false, true, false, false, false, false] rfl rfl (by kernel_rfl) (fun _ _ _ h => h) (Or.inl ⟨by rfl, ?_⟩) ?_ ?_
  rotate_left
  ·
   intro w'
   go_simp
   with_reducible rfl
  rotate_left
  ·
   simp only [Act.put, List.setIfInBounds_toArray, List.set_cons_zero, List.set_cons_succ, i64_w, i32_w]
   rfl
  refine take_ (i := 0) (N := some 17) (v := ?_) (a' := ?_) #[true, true, true, true, false, false, true, false, false, false, false] rfl rfl (by kernel_rfl) (fun _ _ _ h => h) (Or.inl ⟨by rfl, ?_⟩) hHeld ?_ ?_
  rotate_left
  ·
   rintro w' ⟨s0, s1, s2⟩
   go_simp
   with_reducible rfl
  rotate_left
  ·
   simp only [Act.put, List.setIfInBounds_toArray, List.set_cons_zero, List.set_cons_succ, i64_w, i32_w]
   rfl
  refine take_ (i := 4) (N := some 21) (v := ?_) (a' := ?_) #[true, true, true, true, true, false, true, false, false, false, false] rfl rfl (by kernel_rfl) (fun _ _ _ h => h) (Or.inl ⟨by rfl, ?_⟩) hHeld ?_ ?_
  rotate_left
  ·
   rintro w' ⟨s0, s1, s2⟩
   go_simp
   with_reducible rfl
  rotate_left
  ·
   simp only [Act.put, List.setIfInBounds_toArray, List.set_cons_zero, List.set_cons_succ, i64_w, i32_w]
   rfl
  refine pure_ (i := 5) (N := some 22) (v := ?_) (a' := ?_) #[true, true, true, true, true, true, true, false, false, false, false] rfl rfl (by kernel_rfl) (fun _ _ _ h => h) (Or.inl ⟨by rfl, ?_⟩) ?_ ?_
  rotate_left
  ·
   intro w'
   go_simp
   with_reducible rfl
  rotate_left
  ·
   simp only [Act.put, List.setIfInBounds_toArray, List.set_cons_zero, List.set_cons_succ, i64_w, i32_w]
   rfl
  refine pure_ (i := 7) (N := some 24) (v := ?_) (a' := ?_) #[true, true, true, true, true, true, true, true, false, false, false] rfl rfl (by kernel_rfl) (fun _ _ _ h => h) (Or.inl ⟨by rfl, ?_⟩) ?_ ?_
  rotate_left
  ·
   intro w'
   go_simp
   with_reducible rfl
  rotate_left
  ·
   simp only [Act.put, List.setIfInBounds_toArray, List.set_cons_zero, List.set_cons_succ, i64_w, i32_w]
   rfl
  refine pure_ (i := 8) (N := some 25) (v := ?_) (a' := ?_) #[true, true, true, true, true, true, true, true, true, false, false] rfl rfl (by kernel_rfl) (fun _ _ _ h => h) (Or.inl ⟨by rfl, ?_⟩) ?_ ?_
  rotate_left
  ·
   intro w'
   go_simp
   with_reducible rfl
  rotate_left
  ·
   simp only [Act.put, List.setIfInBounds_toArray, List.set_cons_zero, List.set_cons_succ, i64_w, i32_w]
   rfl
  refine one_ (i := 9) (N := none) #[true, true, true, true, true, true, true, true, true, true, false] rfl rfl (by kernel_rfl) (by decide) (fun K hK => ?_)
  refine skip_ (w1 := ?_) (by rfl) rfl ?_ ?_
  rotate_left
  ·
   go_simp
   rfl
  refine hK.out _ _ ⟨cell_off h86 (cell_off h86 (cell_off h86 k0 _ _) _ _) _ _, cell_off h86 (cell_off h86 (cell_off h86 k1 _ _) _ _) _ _, cell_off h86 (cell_off h86 (cell_off h86 k2 _ _) _ _) _ _⟩ (fun hHeld => ?_)
  clear hK K
  refine pure_ (i := 10) (N := some 7) (v := ?_) (a' := ?_) #[true, true, true, true, true, true, true, true, true, true, true] rfl rfl (by kernel_rfl) (fun _ _ _ h => h) (Or.inl ⟨by rfl, ?_⟩) ?_ ?_
  rotate_left
  ·
   intro w'
   go_simp
   with_reducible rfl
  rotate_left
  ·
   simp only [Act.put, List.setIfInBounds_toArray, List.set_cons_zero, List.set_cons_succ, i64_w, i32_w]
   rfl
  refine done_ (by kernel_rfl) ?_
  go_wp2
  refine bodyPost_ret (results_ct rfl _ _ (w.heap.size + 1) 63 #[.string r1, .slice A2 r2.length c2, .string r3] (0, 0) _ rfl (blk_drew (blk_put (blk_put (blk_put X6.out 0 _ rfl) 1 _ rfl) 2 _ rfl)) Tryd.underlying63 rfl (by kernel_rfl)) rfl ⟨A2, c2, rfl, hl2, ?_, ?_⟩
  ·
   exact Kd.F_now (Kd.F_drew (Kd.F_far (Kd.F_far (Kd.F_far HC3.out (fun k hk => by rcases hk with hk | hk <;> (simp; omega)) _) (fun k hk => by rcases hk with hk | hk <;> (simp; omega)) _) (fun k hk => by rcases hk with hk | hk <;> (simp; omega)) _))
  ·
   exact below_drew (below_set (below_set (below_set HB.out (by omega)) (by omega)) (by omega))

theorem run_copy_cell {P : Program} (w : World) (dT sT ty elem : TypeId) (b o : Nat) (s : Addr) (dLen dCap sLen sCap : Nat) (v u : Value) (hu : P.underlying dT = some (.slice elem)) (hs : (P.info? elem).map (·.size) = some 1) (hm : Nat.min sLen dLen = 1)
  (hsrc : w.cell? s = some v) (hd : w.cell? ⟨b, o, none⟩ = some u) (hf : w.frozen? ⟨b, o, none⟩ = false) (h1 : v.oneCell' = true) :
  (Builtin.copy_ #[dT, sT] ty #[.slice (some ⟨b, o, none⟩) dLen dCap, .slice (some s) sLen sCap]).run P w = .ok (.int .i64 1) (w.setCell ⟨b, o, none⟩ v) := by
 have hl := run_loadCells_list (P := P) w s [v] (by intro j x hj; cases j with | zero => simp at hj; subst hj; simpa [Addr.add] using hsrc | succ j => simp at hj)
 have hst := run_storeCells_cells (P := P) b o [v] 0 w (by intro j hj; simp at hj; subst hj; simp [hd]) (by intro j hj; simp at hj; subst hj; simpa using hf) (by simpa using h1)
 simp only [Nat.add_zero, World.setCells, List.length_singleton] at hst hl
 cases hq : P.info? elem with
 | none => simp [hq] at hs
 | some i =>
  have hi : i.size = 1 := by simpa [hq] using hs
  simp [Builtin.copy_, run_underlying hu, Builtin.lenOf, Builtin.firstCells, sizeOf, typeInfo, hq, hi, hm, hl, hst]
  rfl
theorem cell_off1 {W : World} {g : Nat} {v : Value} (h : W.cell? ⟨g, 0, none⟩ = some v) (u : Value) : (W.setCell ⟨g, 1, none⟩ u).cell? ⟨g, 0, none⟩ = some v := by
 have := World.cell?_setCells_out g [u] 1 W ⟨g, 0, none⟩ (fun _ _ => .inl (by simp))
 exact this.trans h
theorem C_two {w : World} {g : Nat} {s : ByteArray} (h : w.heap[g]? = some (.cells #[.string s, .string s] 9 (0, 0))) : Kd.C Kd.string w (some ⟨g, 0, none⟩) 2 [s, s] := by
 obtain ⟨p0, p1, _, _⟩ := cells2 h
 refine ⟨rfl, by decide, fun _ => ⟨_, rfl, fun j p hj => ?_⟩⟩
 have hj2 : j < 2 := (List.getElem?_eq_some_iff.1 hj).1
 refine ⟨[.string s], rfl, ?_, fun i u hi => ?_⟩
 ·
  have : p = s := by
   match j, hj, hj2 with
   | 0, hj, _ => simpa using hj.symm
   | 1, hj, _ => simpa using hj.symm
  subst this; rfl
 ·
  have hi0 : i = 0 := by have := (List.getElem?_eq_some_iff.1 hi).1; simpa using this
  subst hi0
  simp at hi
  subst hi
  match j, hj2 with
  | 0, _ => simpa [Addr.add, Kd.string, Kd.scalar] using p0
  | 1, _ => simpa [Addr.add, Kd.string, Kd.scalar] using p1
theorem C_one {w : World} {g : Nat} {s : ByteArray} (h : w.heap[g]? = some (.cells #[.string s] 9 (0, 0))) : Kd.C Kd.string w (some ⟨g, 0, none⟩) 1 [s] := by
 obtain ⟨p0, _⟩ := cells1 h
 refine ⟨rfl, by decide, fun _ => ⟨_, rfl, fun j p hj => ?_⟩⟩
 have hj2 : j = 0 := by have := (List.getElem?_eq_some_iff.1 hj).1; simpa using this
 subst hj2
 obtain rfl : s = p := by simpa using hj
 refine ⟨[.string s], rfl, rfl, fun i u hi => ?_⟩
 have hi0 : i = 0 := by have := (List.getElem?_eq_some_iff.1 hi).1; simpa using this
 subst hi0
 simp at hi
 subst hi
 simpa [Addr.add, Kd.string, Kd.scalar] using p0
theorem mul_0 : bits_Mul.f 1 0 = some (0, 0) := by decide +kernel
theorem mul_1 : bits_Mul.f 1 1 = some (0, 1) := by decide +kernel
theorem mul_2 : bits_Mul.f 1 2 = some (0, 2) := by decide +kernel
theorem make_run (w : World) (n : Nat) (hn : n ≤ 2) : (Instr.makeSlice 22 (.int .i64 (n : Nat)) (.int .i64 (n : Nat))).run Tryd.prog w = .ok (.slice (some ⟨w.heap.size, 0, none⟩) n n) (w.alloc (.cells (madeCells #[.string ⟨#[]⟩] n) 9)) := by
 obtain ⟨i0, hi, hz⟩ := Option.map_eq_some_iff.1 (show (Tryd.prog.info? 9).map (fun i => (i.zero, i.size, i.bytes)) = some (some (.string ⟨#[]⟩), 1, 16) by kernel_rfl)
 simp only [Prod.mk.injEq] at hz
 obtain ⟨hz0, hz1, hz2⟩ := hz
 have h := run_make (P := Tryd.prog) w 22 9 i0 (.string ⟨#[]⟩) Tryd.underlying22 hi hz0 .i64 .i64 n n (by omega) (Int.le_refl _) (by rw [hz2]; omega) (by omega)
 rw [hz1, Nat.mul_one, Int.toNat_natCast] at h
 exact h
/-- How a walk ends that tells a row of one text, some times over. -/
def RepEnd (n : Nat) (s : ByteArray) (w : World) (e : Ending) (w' : World) : Prop := ∃ A c, e = .returned (.slice A n c) ∧ n ≤ c ∧ Kd.C Kd.string w' A n (List.replicate n s) ∧ Below w.heap.size w w'

set_option maxRecDepth 100000 in
set_option maxHeartbeats 4000000 in
theorem rep_0 (b : Nat) (s : ByteArray) (w : World) (hb : w.heap[b]? = some (.cells #[.string s] 9 (0, 0))) :
  Calls Tryd.prog 55 #[.slice (some ⟨b, 0, none⟩) 1 1, .int .i64 0] w (RepEnd 0 s w) := by
 have hlt := blk_lt hb
 have HB := Aside0.mk hb
 clear hb
 go_enter Tryd.func55, Tryd.ntmps55
 go_wp2_with fail
 refine (bits_Mul.calls _ _ _ _ _ mul_0).mono ?_
 rintro e w1 ⟨rfl, ⟨m1, rfl⟩⟩
 have hmk := make_run (w.drewN m1) 0 (by decide)
 rw [show madeCells #[.string ⟨#[]⟩] 0 = #[] from Array.toList_inj.1 (by simp [madeCells, List.range, List.range.loop])] at hmk
 rw [show ((0 : Nat) : Int) = 0 from rfl] at hmk
 have hB1 : Below w.heap.size w ((w.drewN m1).alloc (.cells #[] 9)) := below_alloc (pw_below_drewN (Below.refl _ _) _) _
 have hX : ((w.drewN m1).alloc (.cells #[] 9)).heap[w.heap.size]? = some (.cells #[] 9 (0, 0)) := by simpa using blk_new (w.drewN m1) _
 have hY := blk_below HB.out hB1
 obtain ⟨W, hW⟩ : ∃ W, (w.drewN m1).alloc (.cells #[] 9) = W := ⟨_, rfl⟩
 obtain ⟨g, hg⟩ : ∃ g, g = w.heap.size := ⟨_, rfl⟩
 rw [show (w.drewN m1).heap.size = w.heap.size by simp] at hmk
 rw [hW, ← hg] at hmk
 rw [hW, ← hg] at hX
 rw [hW] at hB1 hY
 rw [← hg] at hlt
 have HG := Aside0.mk hg
 have HB1 := Aside0.mk hB1
 have HX := Aside0.mk hX
 have HY := Aside0.mk hY
 clear hW hg hB1 hX hY HB
 have hcp : ∀ ty, (Builtin.copy_ #[22, 22] ty #[.slice (some ⟨g, 0, none⟩) 0 0, .slice (some ⟨b, 0, none⟩) 1 1]).run Tryd.prog W = .ok (.int .i64 0) W := fun ty => run_copy_nothing W 22 22 ty 9 _ _ 0 0 1 1 1 Tryd.underlying22 (by kernel_rfl) (by decide)
 go_wp2
 refine wp_loop_rounds 1 ?_
 rw [rounds_succ]
 go_wp2
 go_ret
 exact ⟨_, _, rfl, Nat.le_refl _, ⟨rfl, by decide, fun h => absurd h (by decide)⟩, HB1.out⟩
set_option maxRecDepth 100000 in
set_option maxHeartbeats 4000000 in
theorem rep_1 (b : Nat) (s : ByteArray) (w : World) (hb : w.heap[b]? = some (.cells #[.string s] 9 (0, 0))) :
  Calls Tryd.prog 55 #[.slice (some ⟨b, 0, none⟩) 1 1, .int .i64 1] w (RepEnd 1 s w) := by
 have hlt := blk_lt hb
 have HB := Aside0.mk hb
 clear hb
 go_enter Tryd.func55, Tryd.ntmps55
 go_wp2_with fail
 refine (bits_Mul.calls _ _ _ _ _ mul_1).mono ?_
 rintro e w1 ⟨rfl, ⟨m1, rfl⟩⟩
 have hmk := make_run (w.drewN m1) 1 (by decide)
 rw [show madeCells #[.string ⟨#[]⟩] 1 = #[.string ⟨#[]⟩] from Array.toList_inj.1 (by simp [madeCells, List.range, List.range.loop])] at hmk
 rw [show ((1 : Nat) : Int) = 1 from rfl] at hmk
 have hB1 : Below w.heap.size w ((w.drewN m1).alloc (.cells #[.string ⟨#[]⟩] 9)) := below_alloc (pw_below_drewN (Below.refl _ _) _) _
 have hX : ((w.drewN m1).alloc (.cells #[.string ⟨#[]⟩] 9)).heap[w.heap.size]? = some (.cells #[.string ⟨#[]⟩] 9 (0, 0)) := by simpa using blk_new (w.drewN m1) _
 have hY := blk_below HB.out hB1
 obtain ⟨W, hW⟩ : ∃ W, (w.drewN m1).alloc (.cells #[.string ⟨#[]⟩] 9) = W := ⟨_, rfl⟩
 obtain ⟨g, hg⟩ : ∃ g, g = w.heap.size := ⟨_, rfl⟩
 rw [show (w.drewN m1).heap.size = w.heap.size by simp] at hmk
 rw [hW, ← hg] at hmk
 rw [hW, ← hg] at hX
 rw [hW] at hB1 hY
 rw [← hg] at hlt
 have HG := Aside0.mk hg
 have HB1 := Aside0.mk hB1
 have HX := Aside0.mk hX
 have HY := Aside0.mk hY
 clear hW hg hB1 hX hY HB
 have hcp : ∀ ty, (Builtin.copy_ #[22, 22] ty #[.slice (some ⟨g, 0, none⟩) 1 1, .slice (some ⟨b, 0, none⟩) 1 1]).run Tryd.prog W = .ok (.int .i64 1) (W.setCell ⟨g, 0, none⟩ (.string s)) := fun ty => run_copy_cell W 22 22 ty 9 g 0 _ 1 1 1 1 _ _ Tryd.underlying22 (by kernel_rfl) (by decide) (cells1 HY.out).1 (cells1 HX.out).1 (cells1 HX.out).2 rfl
 go_wp2
 refine wp_loop_rounds 1 ?_
 rw [rounds_succ]
 go_wp2
 go_ret
 exact ⟨_, _, rfl, Nat.le_refl _, C_one (blk_put HX.out 0 _ rfl), below_set HB1.out (by rw [HG.out]; exact Nat.le_refl _)⟩
set_option maxRecDepth 100000 in
set_option maxHeartbeats 4000000 in
theorem rep_2 (b : Nat) (s : ByteArray) (w : World) (hb : w.heap[b]? = some (.cells #[.string s] 9 (0, 0))) :
  Calls Tryd.prog 55 #[.slice (some ⟨b, 0, none⟩) 1 1, .int .i64 2] w (RepEnd 2 s w) := by
 have hlt := blk_lt hb
 have HB := Aside0.mk hb
 clear hb
 go_enter Tryd.func55, Tryd.ntmps55
 go_wp2_with fail
 refine (bits_Mul.calls _ _ _ _ _ mul_2).mono ?_
 rintro e w1 ⟨rfl, ⟨m1, rfl⟩⟩
 have hmk := make_run (w.drewN m1) 2 (by decide)
 rw [show madeCells #[.string ⟨#[]⟩] 2 = #[.string ⟨#[]⟩, .string ⟨#[]⟩] from Array.toList_inj.1 (by simp [madeCells, List.range, List.range.loop])] at hmk
 rw [show ((2 : Nat) : Int) = 2 from rfl] at hmk
 have hB1 : Below w.heap.size w ((w.drewN m1).alloc (.cells #[.string ⟨#[]⟩, .string ⟨#[]⟩] 9)) := below_alloc (pw_below_drewN (Below.refl _ _) _) _
 have hX : ((w.drewN m1).alloc (.cells #[.string ⟨#[]⟩, .string ⟨#[]⟩] 9)).heap[w.heap.size]? = some (.cells #[.string ⟨#[]⟩, .string ⟨#[]⟩] 9 (0, 0)) := by simpa using blk_new (w.drewN m1) _
 have hY := blk_below HB.out hB1
 obtain ⟨W, hW⟩ : ∃ W, (w.drewN m1).alloc (.cells #[.string ⟨#[]⟩, .string ⟨#[]⟩] 9) = W := ⟨_, rfl⟩
 obtain ⟨g, hg⟩ : ∃ g, g = w.heap.size := ⟨_, rfl⟩
 rw [show (w.drewN m1).heap.size = w.heap.size by simp] at hmk
 rw [hW, ← hg] at hmk
 rw [hW, ← hg] at hX
 rw [hW] at hB1 hY
 rw [← hg] at hlt
 have HG := Aside0.mk hg
 have HB1 := Aside0.mk hB1
 have HX := Aside0.mk hX
 have HY := Aside0.mk hY
 clear hW hg hB1 hX hY HB
 have hcp : ∀ ty, (Builtin.copy_ #[22, 22] ty #[.slice (some ⟨g, 0, none⟩) 2 2, .slice (some ⟨b, 0, none⟩) 1 1]).run Tryd.prog W = .ok (.int .i64 1) (W.setCell ⟨g, 0, none⟩ (.string s)) := fun ty => run_copy_cell W 22 22 ty 9 g 0 _ 2 2 1 1 _ _ Tryd.underlying22 (by kernel_rfl) (by decide) (cells1 HY.out).1 (cells2 HX.out).1 (cells2 HX.out).2.2.1 rfl
 have hX2 := blk_put HX.out 0 (.string s) rfl
 have hB2 : Below w.heap.size w (W.setCell ⟨g, 0, none⟩ (.string s)) := below_set HB1.out (by rw [HG.out]; exact Nat.le_refl _)
 obtain ⟨W2, hW2⟩ : ∃ W2, W.setCell ⟨g, 0, none⟩ (.string s) = W2 := ⟨_, rfl⟩
 rw [hW2] at hcp hX2 hB2
 have HB2 := Aside0.mk hB2
 have HX2 := Aside0.mk hX2
 clear hW2 hB2 hX2
 go_wp2
 refine wp_loop_rounds 2 ?_
 rw [rounds_succ]
 go_wp2
 have k0 : W2.drew.cell? ⟨g, 0, none⟩ = some (.string s) := (cells2 (blk_drew HX2.out)).1
 have k1 : W2.cell? ⟨g, 1, none⟩ = some (.string ⟨#[]⟩) := (cells2 HX2.out).2.1
 have hcp2 : ∀ ty, (Builtin.copy_ #[22, 22] ty #[.slice (some ⟨g, 1, none⟩) 1 1, .slice (some ⟨g, 0, none⟩) 1 2]).run Tryd.prog W2.drew = .ok (.int .i64 1) (W2.drew.setCell ⟨g, 1, none⟩ (.string s)) := fun ty => run_copy_cell W2.drew 22 22 ty 9 g 1 _ 1 1 1 2 _ _ Tryd.underlying22 (by kernel_rfl) (by decide) k0 (cells2 (blk_drew HX2.out)).2.1 (cells2 (blk_drew HX2.out)).2.2.2 rfl
 refine start_ (n := 10) (S := fun w' => w'.cell? ⟨g, 0, none⟩ = some (.string s)) (ds := []) #[false, false, false, false, false, false, false, false, false, false] (by kernel_rfl) rfl rfl (k0) (fun hHeld => ?_)
 refine pure_ (i := 0) (N := some 38) (v := ?_) (a' := ?_) #[true, false, false, false, false, false, false, false, false, false] rfl rfl (by kernel_rfl) (fun _ _ _ h => h) (Or.inl ⟨by rfl, ?_⟩) ?_ ?_
 rotate_left
 ·
  intro w'
  go_simp
  with_reducible rfl
 rotate_left
 ·
  simp only [Act.put, List.setIfInBounds_toArray, List.set_cons_zero, List.set_cons_succ, i64_w, i32_w]
  rfl
 refine pure_ (i := 1) (N := some 39) (v := ?_) (a' := ?_) #[true, true, false, false, false, false, false, false, false, false] rfl rfl (by kernel_rfl) (fun _ _ _ h => h) (Or.inl ⟨by rfl, ?_⟩) ?_ ?_
 rotate_left
 ·
  intro w'
  go_simp
  with_reducible rfl
 rotate_left
 ·
  simp only [Act.put, List.setIfInBounds_toArray, List.set_cons_zero, List.set_cons_succ, i64_w, i32_w]
  rfl
 refine pure_ (i := 2) (N := some 40) (v := ?_) (a' := ?_) #[true, true, true, false, false, false, false, false, false, false] rfl rfl (by kernel_rfl) (fun _ _ _ h => h) (Or.inl ⟨by rfl, ?_⟩) ?_ ?_
 rotate_left
 ·
  intro w'
  go_simp
  with_reducible rfl
 rotate_left
 ·
  simp only [Act.put, List.setIfInBounds_toArray, List.set_cons_zero, List.set_cons_succ, i64_w, i32_w]
  rfl
 refine pure_ (i := 3) (N := some 41) (v := ?_) (a' := ?_) #[true, true, true, true, false, false, false, false, false, false] rfl rfl (by kernel_rfl) (fun _ _ _ h => h) (Or.inl ⟨by rfl, ?_⟩) ?_ ?_
 rotate_left
 ·
  intro w'
  go_simp
  with_reducible rfl
 rotate_left
 ·
  simp only [Act.put, List.setIfInBounds_toArray, List.set_cons_zero, List.set_cons_succ, i64_w, i32_w]
  rfl
 refine pure_ (i := 4) (N := some 42) (v := ?_) (a' := ?_) #[true, true, true, true, true, false, false, false, false, false] rfl rfl (by kernel_rfl) (fun _ _ _ h => h) (Or.inl ⟨by rfl, ?_⟩) ?_ ?_
 rotate_left
 ·
  intro w'
  go_simp
  with_reducible rfl
 rotate_left
 ·
  simp only [Act.put, List.setIfInBounds_toArray, List.set_cons_zero, List.set_cons_succ, i64_w, i32_w]
  rfl
 refine pure_ (i := 5) (N := some 43) (v := ?_) (a' := ?_) #[true, true, true, true, true, true, false, false, false, false] rfl rfl (by kernel_rfl) (fun _ _ _ h => h) (Or.inl ⟨by rfl, ?_⟩) ?_ ?_
 rotate_left
 ·
  intro w'
  go_simp
  with_reducible rfl
 rotate_left
 ·
  simp only [Act.put, List.setIfInBounds_toArray, List.set_cons_zero, List.set_cons_succ, i64_w, i32_w]
  rfl
 refine pure_ (i := 6) (N := some 44) (v := ?_) (a' := ?_) #[true, true, true, true, true, true, true, false, false, false] rfl rfl (by kernel_rfl) (fun _ _ _ h => h) (Or.inl ⟨by rfl, ?_⟩) ?_ ?_
 rotate_left
 ·
  intro w'
  go_simp
  with_reducible rfl
 rotate_left
 ·
  simp only [Act.put, List.setIfInBounds_toArray, List.set_cons_zero, List.set_cons_succ, i64_w, i32_w]
  rfl
 refine one_ (i := 7) (N := some 45) #[true, true, true, true, true, true, true, true, false, false] rfl rfl (by kernel_rfl) (by decide) (fun K hK => ?_)
 refine value_ (w1 := W2.drew.setCell ⟨g, 1, none⟩ (.string s)) (v := .int .i64 1) (by rfl) rfl (by first | (go_simp; done) | (go_simp; rfl)) ?_
 refine hK.out _ _ (cell_off1 k0 _) (fun hHeld => ?_)
 clear hK K
 refine norm_ (a' := ?_) ?_ ?_
 rotate_left
 ·
  show Act.put _ (some 45) _ = _
  simp only [Act.put, List.setIfInBounds_toArray, List.set_cons_zero, List.set_cons_succ, i64_w, i32_w]
  rfl
 refine pure_ (i := 8) (N := some 46) (v := ?_) (a' := ?_) #[true, true, true, true, true, true, true, true, true, false] rfl rfl (by kernel_rfl) (fun _ _ _ h => h) (Or.inl ⟨by rfl, ?_⟩) ?_ ?_
 rotate_left
 ·
  intro w'
  go_simp
  with_reducible rfl
 rotate_left
 ·
  simp only [Act.put, List.setIfInBounds_toArray, List.set_cons_zero, List.set_cons_succ, i64_w, i32_w]
  rfl
 refine pure_ (i := 9) (N := some 8) (v := ?_) (a' := ?_) #[true, true, true, true, true, true, true, true, true, true] rfl rfl (by kernel_rfl) (fun _ _ _ h => h) (Or.inl ⟨by rfl, ?_⟩) ?_ ?_
 rotate_left
 ·
  intro w'
  go_simp
  with_reducible rfl
 rotate_left
 ·
  simp only [Act.put, List.setIfInBounds_toArray, List.set_cons_zero, List.set_cons_succ, i64_w, i32_w]
  rfl
 refine done_ (by kernel_rfl) ?_
 have hw2 : wrap64 2 = 2 := by unfold wrap64; omega
 go_wp2
 rw [rounds_succ]
 go_wp2
 go_ret
 exact ⟨_, _, rfl, Nat.le_refl _, C_two (blk_drew (blk_put HX2.out 1 _ rfl)), below_drew (below_set HB2.out (by rw [HG.out]; exact Nat.le_refl _))⟩
/-- The sort of a function of things. -/
def applyR (way : List Int) (f : S63) (ok : Bool) (has : List ByteArray) : ByteArray × List Int × Int :=
 if ok = false then (⟨#[]⟩, way, 10) else if f.f1.length ≠ has.length then (⟨#[]⟩, way, 12) else
 match askL has f.f1 0 with
 | some i => (⟨#[]⟩, (askR way 0 (some i)).1, 11)
 | none => (f.f2, [], 0)
/-- How a walk ends that tells a sort, a way and a number. -/
def SortEnd (base : Nat) (w : World) (r : ByteArray × List Int × Int) (e : Ending) (w' : World) : Prop := ∃ v', e = .returned (.tuple #[.string r.1, v', .int .i64 r.2.2]) ∧ Kd.R (Kd.int .i64) 3 w' base (fun _ => True) v' r.2.1 ∧ Below w.heap.size w w'
theorem ret3_tmps {fn : Func} {a b c : Tmp} (h : fn.results = #[.tmp a, .tmp b, .tmp c]) {P : Program} (tmps : Array Value) (w : World) : (results fn tmps).run P w = .ok (.tuple #[tmps.getD a undef, tmps.getD b undef, tmps.getD c undef]) w := by
 simp [results, h]
set_option maxRecDepth 100000 in
set_option maxHeartbeats 4000000 in
theorem room_apply (base : Nat) (q0 q1 q2 q3 : Value) (h1 : q0.oneCell' = true) (h2 : q1.oneCell' = true) (h3 : q2.oneCell' = true) (h4 : q3.oneCell' = true) (v : Value) (way : List Int) (f : S63) (A : Option Addr) (c : Nat) (ok : Bool) (Ah : Option Addr) (ch : Nat) (has : List ByteArray) (w : World)
  (hR : Kd.R (Kd.int .i64) 3 w base (fun _ => True) v way) (hb : base ≤ w.heap.size) (hl : way.length ≤ 1000000) (hH : Kd.C Kd.string w Ah has.length has) (hhc : has.length ≤ ch) (hF : Kd.C Kd.string w A f.f1.length f.f1) (hfc : f.f1.length ≤ c) (hhl : has.length ≤ 1000000) :
  Calls Tryd.prog 53 #[.agg #[q0, q1, q2, q3], v, .agg #[.string f.f0, .slice A f.f1.length c, .string f.f2], .bool ok, .slice Ah has.length ch] w (SortEnd base w (applyR way f ok has)) := by
 obtain ⟨Aw, cw, rfl⟩ := Kd.R_slice hR
 unfold applyR
 obtain ⟨f0, f1, f2⟩ := f
 dsimp only at hF hfc ⊢
 cases ok with
 | false =>
  have HR := Aside0.mk (Kd.R_alloc (Kd.R_alloc hR (.cells #[q0, q1, q2, q3] 69)) (.cells #[.string f0, .slice A f1.length c, .string f2] 63))
  clear hR hH hF
  rw [if_pos rfl]
  go_enter Tryd.func53, Tryd.ntmps53
  go_wp2
  refine bodyPost_ret (ret3_tmps rfl _ _) rfl ⟨_, rfl, HR.out, below_alloc (below_alloc (Below.refl _ _) _) _⟩
 | true =>
  rw [if_neg (by decide)]
  by_cases hn : f1.length = has.length
  ·
   rw [if_neg (by simpa using hn)]
   have hask := ask_any base (.slice Aw way.length cw) way 0 Ah ch has A c f1 ((w.alloc (.cells #[q0, q1, q2, q3] 69)).alloc (.cells #[.string f0, .slice A f1.length c, .string f2] 63)) (Kd.R_alloc (Kd.R_alloc hR _) _) (by simp; omega) hl (by omega) (by omega) (Kd.C_alloc (Kd.C_alloc hH _) _) hhc (Kd.C_alloc (Kd.C_alloc hF _) _) hfc (by omega) (by omega)
   have hni : ((f1.length : Int) == (has.length : Int)) = true := by rw [beq_iff_eq]; omega
   have hnn : (f1.length == has.length) = true := by simpa using hn
   have x63 := blk_new (w.alloc (.cells #[q0, q1, q2, q3] 69)) (.cells #[.string f0, .slice A f1.length c, .string f2] 63)
   have HX := Aside0.mk x63
   have HN := Aside0.mk hn
   clear hR hH hF x63 hn
   cases hq : askL has f1 0 with
   | none =>
    rw [hq] at hask
    have HA := Aside0.mk hask
    clear hask hq
    go_enter Tryd.func53, Tryd.ntmps53
    go_wp2_with fail
    refine HA.out.mono ?_
    rintro e w1 ⟨v1, rfl, hr1, hb1⟩
    have hB := below_step (below_alloc (below_alloc (Below.refl w.heap.size w) (.cells #[q0, q1, q2, q3] 69)) (.cells #[.string f0, .slice A f1.length c, .string f2] 63)) hb1
    have p2 : w1.cell? ⟨w.heap.size + 1, 2, none⟩ = some (.string f2) := by simpa using (cells3 (blk_below HX.out hb1)).2.2.1
    have HB := Aside0.mk hB
    clear hr1 hb1 hB
    go_wp2
    refine bodyPost_ret (ret3_tmps rfl _ _) rfl ⟨_, rfl, Kd.R_nil _ _ _ _ _, HB.out⟩
   | some i =>
    rw [hq] at hask
    have HA := Aside0.mk hask
    clear hask hq
    go_enter Tryd.func53, Tryd.ntmps53
    go_wp2_with fail
    refine HA.out.mono ?_
    rintro e w1 ⟨v1, rfl, hr1, hb1⟩
    have hB := below_step (below_alloc (below_alloc (Below.refl w.heap.size w) (.cells #[q0, q1, q2, q3] 69)) (.cells #[.string f0, .slice A f1.length c, .string f2] 63)) hb1
    have HB := Aside0.mk hB
    have HR1 := Aside0.mk hr1
    clear hr1 hb1 hB
    go_wp2
    refine bodyPost_ret (ret3_tmps rfl _ _) rfl ⟨_, rfl, HR1.out, HB.out⟩
  ·
   rw [if_pos hn]
   have HR := Aside0.mk (Kd.R_alloc (Kd.R_alloc hR (.cells #[q0, q1, q2, q3] 69)) (.cells #[.string f0, .slice A f1.length c, .string f2] 63))
   have hni : ((f1.length : Int) == (has.length : Int)) = false := by rw [beq_eq_false_iff_ne]; omega
   have hnn : (f1.length == has.length) = false := by rw [beq_eq_false_iff_ne]; omega
   have hnd : (f1.length = has.length) = False := eq_false hn
   clear hR hH hF hn
   go_enter Tryd.func53, Tryd.ntmps53
   go_wp2
   refine bodyPost_ret (ret3_tmps rfl _ _) rfl ⟨_, rfl, HR.out, below_alloc (below_alloc (Below.refl _ _) _) _⟩
theorem depL_append (b : List S29) : ∀ l : List S29, depL (l ++ b) = max (depL l) (depL b)
 | [] => by simp [depL]
 | y :: l => by rw [List.cons_append, depL, depL, depL_append b l, Nat.max_assoc]
theorem depL_pre (l : List S29) (i : Nat) : depL (l.take i) ≤ depL l := by
 have := depL_append (l.drop i) (l.take i)
 rw [List.take_append_drop] at this
 omega
/-- Where terms stand: a signature, variables, binders, in memory. -/
structure RoomP where
 As : Option Addr
 cs : Nat
 sorts : List ByteArray
 Af : Option Addr
 cf : Nat
 funs : List S63
 bv : Nat
 Av : Option Addr
 cv : Nat
 vars : List S65
 Ab : Option Addr
 cb : Nat
 binders : List ByteArray
structure RoomAt (R : RoomP) (w : World) : Prop where
 s : Kd.C Kd.string w R.As R.sorts.length R.sorts
 sl : R.sorts.length ≤ R.cs
 f : Kd.C k63 w R.Af R.funs.length R.funs
 fl : R.funs.length ≤ R.cf
 b : w.heap[R.bv]? = some (.cells #[.slice R.Av R.vars.length R.cv] 26 (0, 0))
 v : Kd.C k65 w R.Av R.vars.length R.vars
 vl : R.vars.length ≤ R.cv
 d : Kd.C Kd.string w R.Ab R.binders.length R.binders
 dl : R.binders.length ≤ R.cb
theorem RoomAt.below {R : RoomP} {w w' : World} (h : RoomAt R w) (hb : Below w.heap.size w w') : RoomAt R w' :=
 ⟨Kd.C_below h.s hb, h.sl, Kd.C_below h.f hb, h.fl, blk_below h.b hb, Kd.C_below h.v hb, h.vl, Kd.C_below h.d hb, h.dl⟩
def intS : ByteArray := ⟨#[73, 110, 116]⟩
mutual
/-- The sort of a term that is right, or where it is wrong. -/
def wTerm (funs : List S63) (vars : List S65) (binders : List ByteArray) : S29 → List Int → ByteArray × List Int × Int
 | ⟨op, nm, nu, l⟩, way =>
  let r := wAll funs vars binders l way 0 []
  if r.2.2 ≠ 0 then (⟨#[]⟩, r.2.1, r.2.2) else
  if op = 1 then (if (sortL vars nm).2 = true then ((sortL vars nm).1, [], 0) else (⟨#[]⟩, way, 10)) else
  if op = 2 then (if (binders.length : Int) ≤ nu then (⟨#[]⟩, way, 13) else (binders.getD (binders.length - 1 - nu.toNat) ⟨#[]⟩, [], 0)) else
  if op = 3 then applyR way (findL funs nm).1 (kindB (findL funs nm) false) r.1 else
  match askL r.1 (List.replicate r.1.length intS) 0 with
  | some i => (⟨#[]⟩, (askR way 0 (some i)).1, 11)
  | none => (intS, [], 0)
/-- The sorts of terms, or where the first one is wrong. -/
def wAll (funs : List S63) (vars : List S65) (binders : List ByteArray) : List S29 → List Int → Nat → List ByteArray → List ByteArray × List Int × Int
 | [], _, _, acc => (acc, [], 0)
 | t :: l, way, i, acc =>
  let r := wTerm funs vars binders t (way ++ [(i : Int)])
  if r.2.2 ≠ 0 then ([], r.2.1, r.2.2) else wAll funs vars binders l way (i + 1) (acc ++ [r.1])
end
def AllEnd (base : Nat) (w : World) (r : List ByteArray × List Int × Int) (e : Ending) (w' : World) : Prop := ∃ (A : Option Addr) (c : Nat) (v' : Value), e = .returned (.tuple #[.slice A r.1.length c, v', .int .i64 r.2.2]) ∧ r.1.length ≤ c ∧ Kd.C Kd.string w' A r.1.length r.1 ∧ Kd.R (Kd.int .i64) 3 w' base (fun _ => True) v' r.2.1 ∧ Below w.heap.size w w'
/-- What is to be shown of a term. -/
def TermGoal (R : RoomP) (base : Nat) (x : S29) : Prop := ∀ (A : Option Addr) (c : Nat) (v : Value) (way : List Int) (w : World), RoomAt R w → Kd.R (Kd.int .i64) 3 w base (fun _ => True) v way → base ≤ w.heap.size → way.length + depT x ≤ 1000 → x.f3.length ≤ c → Kd.C k29 w A x.f3.length x.f3 →
 Calls Tryd.prog 26 #[.agg #[.slice R.As R.sorts.length R.cs, .slice R.Af R.funs.length R.cf, .func (.func 48) #[] #[.pointer (some ⟨R.bv, 0, none⟩)], .slice R.Ab R.binders.length R.cb], v, .agg #[.int .i64 x.f0, .string x.f1, .int .i64 x.f2, .slice A x.f3.length c]] w (SortEnd base w (wTerm R.funs R.vars R.binders x way))
theorem wAll_step (funs : List S63) (vars : List S65) (binders : List ByteArray) (l : List S29) (way : List Int) (i : Nat) (acc : List ByteArray) (h : i < l.length) :
  wAll funs vars binders (l.drop i) way i acc = if (wTerm funs vars binders l[i] (way ++ [(i : Int)])).2.2 ≠ 0 then ([], (wTerm funs vars binders l[i] (way ++ [(i : Int)])).2.1, (wTerm funs vars binders l[i] (way ++ [(i : Int)])).2.2) else wAll funs vars binders (l.drop (i + 1)) way (i + 1) (acc ++ [(wTerm funs vars binders l[i] (way ++ [(i : Int)])).1]) := by
 rw [List.drop_eq_getElem_cons h, wAll]
set_option maxRecDepth 100000 in
set_option maxHeartbeats 8000000 in
theorem room_all (R : RoomP) (base : Nat) (l : List S29) (HTs : ∀ y ∈ l, TermGoal R base y) (A : Option Addr) (c : Nat) (v : Value) (way : List Int) (w : World) (hRM : RoomAt R w) (hR : Kd.R (Kd.int .i64) 3 w base (fun _ => True) v way) (hbase : base ≤ w.heap.size) (hd : way.length + 1 + depL l ≤ 1000) (hlc : l.length ≤ c) (hC : Kd.C k29 w A l.length l) (hl8 : l.length ≤ 1000) :
  Calls Tryd.prog 51 #[.agg #[.slice R.As R.sorts.length R.cs, .slice R.Af R.funs.length R.cf, .func (.func 48) #[] #[.pointer (some ⟨R.bv, 0, none⟩)], .slice R.Ab R.binders.length R.cb], v, .slice A l.length c] w (AllEnd base w (wAll R.funs R.vars R.binders l way 0 [])) := by
 obtain ⟨Av, cv, rfl⟩ := Kd.R_slice hR
 have HR := Aside0.mk hR
 have HC := Aside0.mk hC
 have HRM := Aside0.mk hRM
 have HTS := Aside0.mk HTs
 have x0 := blk_new w (.cells #[.slice R.As R.sorts.length R.cs, .slice R.Af R.funs.length R.cf, .func (.func 48) #[] #[.pointer (some ⟨R.bv, 0, none⟩)], .slice R.Ab R.binders.length R.cb] 69)
 have X0 := Aside0.mk x0
 clear hR hC hRM HTs x0
 go_enter Tryd.func51, Tryd.ntmps51
 go_wp2
 go_loopw [9, 17] (fun u9 u17 wr => ∃ (i : Nat) (acc : List ByteArray), u17 = .int .i64 i ∧ i ≤ l.length ∧ Aside0 (Kd.R Kd.string 9 wr w.heap.size (fun _ => True) u9 acc ∧ acc.length = i) ∧ Aside0 (wAll R.funs R.vars R.binders l way 0 [] = wAll R.funs R.vars R.binders (l.drop i) way i acc) ∧ Aside0 (wr.heap[w.heap.size]? = some (.cells #[.slice R.As R.sorts.length R.cs, .slice R.Af R.funs.length R.cf, .func (.func 48) #[] #[.pointer (some ⟨R.bv, 0, none⟩)], .slice R.Ab R.binders.length R.cb] 69 (0, 0))) ∧ Aside0 (Below w.heap.size w wr)) (fun _ u17 _ => l.length - (intOf u17).toNat)
 case atStart => exact ⟨0, [], rfl, Nat.zero_le _, ⟨Kd.R_nil _ _ _ _ _, rfl⟩, ⟨rfl⟩, X0, ⟨below_alloc (Below.refl _ _) _⟩⟩
 case round =>
  clear X0
  obtain ⟨i, acc, rfl, hi, HA, HW, XR0, HBr⟩ := hrel
  obtain ⟨A9, c9, rfl⟩ := Kd.R_slice HA.out.1
  by_cases hlt : i < l.length
  ·
   obtain ⟨ad, A3, c3, rfl, h0, h1, h2, h3, hl3, hc3⟩ := arg_at HC.out HBr.out i hlt
   have hst := wAll_step R.funs R.vars R.binders l way i acc hlt
   have hT := HTS.out l[i] (List.getElem_mem hlt)
   have hdx : depT l[i] ≤ depL l := by
    have h5 := depL_take l i hlt
    have h6 := depL_pre l (i + 1)
    omega
   obtain ⟨x, hx⟩ : ∃ x, x = l[i] := ⟨_, rfl⟩
   rw [← hx] at h0 h1 h2 h3 hl3 hc3 hst hT hdx
   clear hx
   obtain ⟨xop, xnm, xnu, xl⟩ := x
   dsimp only at h0 h1 h2 h3 hl3 hc3
   have HT := Aside0.mk (fun (W : World) (v3 : Value) (q1 : RoomAt R W) (q2 : Kd.R (Kd.int .i64) 3 W base (fun _ => True) v3 (way ++ [(i : Int)])) (q3 : base ≤ W.heap.size) (q4 : Kd.C k29 W A3 xl.length xl) => hT A3 c3 v3 (way ++ [(i : Int)]) W q1 q2 q3 (by simp; omega) hl3 q4)
   have HC3 := Aside0.mk hc3
   have HST := Aside0.mk (HW.out.trans hst)
   clear hT hst hc3 HW
   dsimp only at HT
   obtain ⟨⟨rs, ra, re⟩, hr⟩ : ∃ r, r = wTerm R.funs R.vars R.binders ⟨xop, xnm, xnu, xl⟩ (way ++ [(i : Int)]) := ⟨_, rfl⟩
   rw [← hr] at HT HST
   dsimp only at HT HST
   clear hr
   have xt := blk_new wr (.cells #[.int .i64 xop, .string xnm, .int .i64 xnu, .slice A3 xl.length c3] 29)
   have xr := blk_alloc XR0.out (.cells #[.int .i64 xop, .string xnm, .int .i64 xnu, .slice A3 xl.length c3] 29)
   have hbw : Below w.heap.size w (wr.alloc (.cells #[.int .i64 xop, .string xnm, .int .i64 xnu, .slice A3 xl.length c3] 29)) := below_alloc HBr.out _
   have hra := Kd.R_alloc HA.out.1 (.cells #[.int .i64 xop, .string xnm, .int .i64 xnu, .slice A3 xl.length c3] 29)
   have XT := Aside0.mk xt
   have XR := Aside0.mk xr
   have HBW := Aside0.mk hbw
   have HRA := Aside0.mk (And.intro hra HA.out.2)
   clear xt xr hbw hra XR0 HA HBr
   go_wp2
   obtain ⟨bx, hbx⟩ : ∃ bx, bx = wr.heap.size := ⟨_, rfl⟩
   obtain ⟨W, hW⟩ : ∃ W, wr.alloc (.cells #[.int .i64 xop, .string xnm, .int .i64 xnu, .slice A3 xl.length c3] 29) = W := ⟨_, rfl⟩
   rw [← hbx] at XT ⊢
   rw [hW] at XT XR HBW HRA ⊢
   obtain ⟨bt, hbt⟩ : ∃ bt, bt = w.heap.size := ⟨_, rfl⟩
   have hd0 := fun (W' : World) (hb : Below W.heap.size W W') => down_any base (.slice Av way.length cv) way (i : Int) W' (Kd.R_below HR.out (HBW.out.trans (hb.mono HBW.out.size))) (Nat.le_trans hbase (Nat.le_trans HBW.out.size hb.size)) (by omega)
   have HD := Aside0.mk hd0
   rw [← hbt] at XR
   have HBT := Aside0.mk hbt
   clear hW hbx hd0
   have hbt2 : w.heap.size = bt := HBT.out.symm
   simp only [hbt2]
   clear hbt2 hbt
   obtain ⟨k0, k1, k2, k3, _⟩ := cells4 (blk_drew XR.out)
   obtain ⟨k4, k5, k6, k7, _⟩ := cells4 (blk_drew XT.out)
   clear h0 h1 h2 h3
   refine start_ (n := 13) (S := fun w' => w'.cell? ⟨bt, 0, none⟩ = some (.slice R.As R.sorts.length R.cs) ∧ w'.cell? ⟨bt, 1, none⟩ = some (.slice R.Af R.funs.length R.cf) ∧ w'.cell? ⟨bt, 2, none⟩ = some (.func (.func 48) #[] #[.pointer (some ⟨R.bv, 0, none⟩)]) ∧ w'.cell? ⟨bt, 3, none⟩ = some (.slice R.Ab R.binders.length R.cb) ∧ w'.cell? ⟨bx, 0, none⟩ = some (.int .i64 xop) ∧ w'.cell? ⟨bx, 1, none⟩ = some (.string xnm) ∧ w'.cell? ⟨bx, 2, none⟩ = some (.int .i64 xnu) ∧ w'.cell? ⟨bx, 3, none⟩ = some (.slice A3 xl.length c3)) (ds := []) #[false, false, false, false, false, false, false, false, false, false, false, false, false] (by kernel_rfl) rfl rfl ⟨k0, k1, k2, k3, k4, k5, k6, k7⟩ (fun hHeld => ?_)
   refine pure_ (i := 1) (N := some 24) (v := ?_) (a' := ?_) #[false, true, false, false, false, false, false, false, false, false, false, false, false] rfl rfl (by kernel_rfl) (fun _ _ _ h => h) (Or.inl ⟨by rfl, ?_⟩) ?_ ?_
   rotate_left
   ·
    intro w'
    go_simp
    with_reducible rfl
   rotate_left
   ·
    simp only [Act.put, List.setIfInBounds_toArray, List.set_cons_zero, List.set_cons_succ, i64_w, i32_w]
    rfl
   refine pure_ (i := 2) (N := some 25) (v := ?_) (a' := ?_) #[false, true, true, false, false, false, false, false, false, false, false, false, false] rfl rfl (by kernel_rfl) (fun _ _ _ h => h) (Or.inl ⟨by rfl, ?_⟩) ?_ ?_
   rotate_left
   ·
    intro w'
    go_simp
    with_reducible rfl
   rotate_left
   ·
    simp only [Act.put, List.setIfInBounds_toArray, List.set_cons_zero, List.set_cons_succ, i64_w, i32_w]
    rfl
   refine take_ (i := 0) (N := some 23) (v := ?_) (a' := ?_) #[true, true, true, false, false, false, false, false, false, false, false, false, false] rfl rfl (by kernel_rfl) (fun _ _ _ h => h) (Or.inl ⟨by rfl, ?_⟩) hHeld ?_ ?_
   rotate_left
   ·
    rintro w' ⟨s0, s1, s2, s3, s4, s5, s6, s7⟩
    go_simp
    with_reducible rfl
   rotate_left
   ·
    simp only [Act.put, List.setIfInBounds_toArray, List.set_cons_zero, List.set_cons_succ, i64_w, i32_w]
    rfl
   refine take_ (i := 4) (N := some 27) (v := ?_) (a' := ?_) #[true, true, true, false, true, false, false, false, false, false, false, false, false] rfl rfl (by kernel_rfl) (fun _ _ _ h => h) (Or.inl ⟨by rfl, ?_⟩) hHeld ?_ ?_
   rotate_left
   ·
    rintro w' ⟨s0, s1, s2, s3, s4, s5, s6, s7⟩
    go_simp
    with_reducible rfl
   rotate_left
   ·
    simp only [Act.put, List.setIfInBounds_toArray, List.set_cons_zero, List.set_cons_succ, i64_w, i32_w]
    rfl
   refine one_ (i := 3) (N := some 26) #[true, true, true, true, true, false, false, false, false, false, false, false, false] rfl rfl (by kernel_rfl) (by decide) (fun K hK => ?_)
   refine goes_ Tryd.func67 (by kernel_rfl) rfl #[.slice Av way.length cv, .int .i64 (i : Int)] (by rfl) rfl rfl (by simp only [List.map_toArray, List.map_cons, List.map_nil]; rfl) ?_
   with_reducible refine (HD.out _ (below_drew (Below.refl _ _))).mono ?_
   rintro e w3 ⟨v3, rfl, hr3, hb3⟩
   refine ⟨_, rfl, ?_⟩
   have xr3 := blk_below (blk_drew XR.out) hb3
   have xt3 := blk_below (blk_drew XT.out) hb3
   obtain ⟨m0, m1, m2, m3, _⟩ := cells4 xr3
   obtain ⟨m4, m5, m6, m7, _⟩ := cells4 xt3
   have HB3 := Aside0.mk (below_step (below_drew HBW.out) hb3)
   have HR3 := Aside0.mk hr3
   have HBW3 := Aside0.mk (below_step (below_drew (Below.refl W.heap.size W)) hb3)
   have XR3 := Aside0.mk xr3
   have XT3 := Aside0.mk xt3
   clear hr3 hb3 xr3 xt3
   refine hK.out _ _ ⟨m0, m1, m2, m3, m4, m5, m6, m7⟩ (fun hHeld => ?_)
   clear hK K
   refine norm_ (a' := ?_) ?_ ?_
   rotate_left
   ·
    show Act.put _ (some 26) _ = _
    simp only [Act.put, List.setIfInBounds_toArray, List.set_cons_zero, List.set_cons_succ, i64_w, i32_w]
    rfl
   refine one_ (i := 5) (N := some 28) #[true, true, true, true, true, true, false, false, false, false, false, false, false] rfl rfl (by kernel_rfl) (by decide) (fun K hK => ?_)
   refine goes_ Tryd.func26 (by kernel_rfl) rfl #[.agg #[.slice R.As R.sorts.length R.cs, .slice R.Af R.funs.length R.cf, .func (.func 48) #[] #[.pointer (some ⟨R.bv, 0, none⟩)], .slice R.Ab R.binders.length R.cb], v3, .agg #[.int .i64 xop, .string xnm, .int .i64 xnu, .slice A3 xl.length c3]] (by rfl) rfl rfl (by simp only [List.map_toArray, List.map_cons, List.map_nil]; rfl) ?_
   with_reducible refine (HT.out _ v3 (HRM.out.below HB3.out) HR3.out (Nat.le_trans hbase HB3.out.size) (Kd.C_below HC3.out HB3.out)).mono ?_
   rintro e w4 ⟨v4, rfl, hr4, hb4⟩
   refine ⟨_, rfl, ?_⟩
   have xr4 := blk_below XR3.out hb4
   have xt4 := blk_below XT3.out hb4
   obtain ⟨l0, l1, l2, l3, _⟩ := cells4 xr4
   obtain ⟨l4, l5, l6, l7, _⟩ := cells4 xt4
   have HB4 := Aside0.mk (below_step HB3.out hb4)
   have HR4 := Aside0.mk hr4
   have XR4 := Aside0.mk xr4
   have HBW4 := Aside0.mk (below_step HBW3.out hb4)
   clear hr4 hb4 xr4 xt4
   refine hK.out _ _ ⟨l0, l1, l2, l3, l4, l5, l6, l7⟩ (fun hHeld => ?_)
   clear hK K
   refine norm_ (a' := ?_) ?_ ?_
   rotate_left
   ·
    show Act.put _ (some 28) _ = _
    simp only [Act.put, List.setIfInBounds_toArray, List.set_cons_zero, List.set_cons_succ, i64_w, i32_w]
    rfl
   refine pure_ (i := 6) (N := some 22) (v := ?_) (a' := ?_) #[true, true, true, true, true, true, true, false, false, false, false, false, false] rfl rfl (by kernel_rfl) (fun _ _ _ h => h) (Or.inl ⟨by rfl, ?_⟩) ?_ ?_
   rotate_left
   ·
    intro w'
    go_simp
    with_reducible rfl
   rotate_left
   ·
    simp only [Act.put, List.setIfInBounds_toArray, List.set_cons_zero, List.set_cons_succ, i64_w, i32_w]
    rfl
   refine pure_ (i := 7) (N := some 29) (v := ?_) (a' := ?_) #[true, true, true, true, true, true, true, true, false, false, false, false, false] rfl rfl (by kernel_rfl) (fun _ _ _ h => h) (Or.inl ⟨by rfl, ?_⟩) ?_ ?_
   rotate_left
   ·
    intro w'
    go_simp
    with_reducible rfl
   rotate_left
   ·
    simp only [Act.put, List.setIfInBounds_toArray, List.set_cons_zero, List.set_cons_succ, i64_w, i32_w]
    rfl
   refine pure_ (i := 8) (N := some 30) (v := ?_) (a' := ?_) #[true, true, true, true, true, true, true, true, true, false, false, false, false] rfl rfl (by kernel_rfl) (fun _ _ _ h => h) (Or.inl ⟨by rfl, ?_⟩) ?_ ?_
   rotate_left
   ·
    intro w'
    go_simp
    with_reducible rfl
   rotate_left
   ·
    simp only [Act.put, List.setIfInBounds_toArray, List.set_cons_zero, List.set_cons_succ, i64_w, i32_w]
    rfl
   refine pure_ (i := 9) (N := some 31) (v := ?_) (a' := ?_) #[true, true, true, true, true, true, true, true, true, true, false, false, false] rfl rfl (by kernel_rfl) (fun _ _ _ h => h) (Or.inl ⟨by rfl, ?_⟩) ?_ ?_
   rotate_left
   ·
    intro w'
    go_simp
    with_reducible rfl
   rotate_left
   ·
    simp only [Act.put, List.setIfInBounds_toArray, List.set_cons_zero, List.set_cons_succ, i64_w, i32_w]
    rfl
   refine pure_ (i := 10) (N := some 12) (v := ?_) (a' := ?_) #[true, true, true, true, true, true, true, true, true, true, true, false, false] rfl rfl (by kernel_rfl) (fun _ _ _ h => h) (Or.inl ⟨by rfl, ?_⟩) ?_ ?_
   rotate_left
   ·
    intro w'
    go_simp
    with_reducible rfl
   rotate_left
   ·
    simp only [Act.put, List.setIfInBounds_toArray, List.set_cons_zero, List.set_cons_succ, i64_w, i32_w]
    rfl
   refine pure_ (i := 11) (N := some 13) (v := ?_) (a' := ?_) #[true, true, true, true, true, true, true, true, true, true, true, true, false] rfl rfl (by kernel_rfl) (fun _ _ _ h => h) (Or.inl ⟨by rfl, ?_⟩) ?_ ?_
   rotate_left
   ·
    intro w'
    go_simp
    with_reducible rfl
   rotate_left
   ·
    simp only [Act.put, List.setIfInBounds_toArray, List.set_cons_zero, List.set_cons_succ, i64_w, i32_w]
    rfl
   refine pure_ (i := 12) (N := some 14) (v := ?_) (a' := ?_) #[true, true, true, true, true, true, true, true, true, true, true, true, true] rfl rfl (by kernel_rfl) (fun _ _ _ h => h) (Or.inl ⟨by rfl, ?_⟩) ?_ ?_
   rotate_left
   ·
    intro w'
    go_simp
    with_reducible rfl
   rotate_left
   ·
    simp only [Act.put, List.setIfInBounds_toArray, List.set_cons_zero, List.set_cons_succ, i64_w, i32_w]
    rfl
   refine done_ (by kernel_rfl) ?_
   have hbt := HBT.out
   subst hbt
   clear HBT hHeld XT3 XR3 HB3 HR3 HBW3 HRM HT HD
   by_cases hre : re = 0
   ·
    subst hre
    have HS := Aside0.mk (HST.out.trans (if_neg (by simp)))
    have hro := Kd.R_below HRA.out.1 HBW4.out
    have hne := Kd.R_ne hro XR4.out (by decide)
    have HRO := Aside0.mk (And.intro hro HRA.out.2)
    have HNE := Aside0.mk hne
    clear HST HRA hro hne
    have hai := HRO.out.2
    have HAI := Aside0.mk hai
    clear hai
    go_wp2_with (first
     | ((with_reducible refine gate_builtin (b := .append) (xs := #[.tmp 36, .tmp 38]) rfl ?_); at_builtin; refine Kd.R_append Kd.string (w0 := w) w.heap.size rfl (.tmp 36) (.tmp 38) 22 9 (.string ⟨#[]⟩) 16 rfl Tryd.underlying22 info9 rfl (by decide) (by omega) (.slice A9 acc.length c9) acc rs [.string rs] (fun _ => True) (fun _ => False) rfl rfl (show Kd.M Kd.string _ _ _ rs [.string rs] from rfl) (fun _ h => h.elim) (fun _ _ => trivial) HRO.out.1 HB4.out HB4.out.size ?aL ?_; (case aL => have := HAI.out; omega)))
    intro v1 w1 hR1 hB1 hg1 hat1
    have HR1 := Aside0.mk hR1
    have HB1 := Aside0.mk hB1
    have XR5 := Aside0.mk (blk_grown XR4.out hg1 HNE.out)
    clear hR1 hB1 hg1 hat1
    go_wp2
    go_roundw
    case rel => exact ⟨i + 1, acc ++ [rs], by go_num, by omega, ⟨HR1.out, by rw [List.length_append, HAI.out]; rfl⟩, HS, XR5, HB1⟩
    case measure => simp [intOf]; omega
   ·
    have HS := Aside0.mk (HST.out.trans (if_pos hre))
    have hre2 : (re = 0) = False := eq_false hre
    have hre3 : (re == 0) = false := by simpa using hre
    clear HST hre
    go_wp2
    refine bodyPost_ret (ret3_tmps rfl _ _) rfl ?_
    rw [HS.out]
    exact ⟨none, 0, v4, rfl, Nat.le_refl _, Kd.C_nil _ _, HR4.out, HB4.out⟩
  ·
   obtain rfl : i = l.length := by omega
   have HS := Aside0.mk (HW.out.trans (by rw [List.drop_length, wAll]))
   have hro := HA.out.1
   obtain ⟨_, hlc9, hC9⟩ := Kd.R_reads' hro
   have HC9 := Aside0.mk hC9
   clear HA HW hro hC9
   go_wp2
   refine bodyPost_ret (ret3_tmps rfl _ _) rfl ?_
   rw [HS.out]
   exact ⟨A9, c9, _, rfl, hlc9, HC9.out, Kd.R_nil _ _ _ _ _, HBr.out⟩
def All3 (base : Nat) (w : World) (has : List ByteArray) (ra : List Int) (re : Int) (e : Ending) (w' : World) : Prop := ∃ (A : Option Addr) (c : Nat) (v' : Value), e = .returned (.tuple #[.slice A has.length c, v', .int .i64 re]) ∧ has.length ≤ c ∧ Kd.C Kd.string w' A has.length has ∧ Kd.R (Kd.int .i64) 3 w' base (fun _ => True) v' ra ∧ Below w.heap.size w w'
set_option maxRecDepth 100000 in
set_option maxHeartbeats 8000000 in
theorem term_err (R : RoomP) (base : Nat) (op : Int) (nm : ByteArray) (nu : Int) (n : Nat) (l : List S29) (A : Option Addr) (c : Nat) (v : Value) (way : List Int) (w : World) (hRM : RoomAt R w) (hR : Kd.R (Kd.int .i64) 3 w base (fun _ => True) v way) (hbase : base ≤ w.heap.size) (hway : way.length ≤ 1000) (has : List ByteArray) (ra : List Int) (re : Int) (q : ByteArray × List Int × Int)
  (hall : ∀ W, Below w.heap.size w W → Calls Tryd.prog 51 #[.agg #[.slice R.As R.sorts.length R.cs, .slice R.Af R.funs.length R.cf, .func (.func 48) #[] #[.pointer (some ⟨R.bv, 0, none⟩)], .slice R.Ab R.binders.length R.cb], v, .slice A l.length c] W (All3 base W has ra re)) (hq : q = (⟨#[]⟩, ra, re)) (hre : re ≠ 0) :
  Calls Tryd.prog 26 #[.agg #[.slice R.As R.sorts.length R.cs, .slice R.Af R.funs.length R.cf, .func (.func 48) #[] #[.pointer (some ⟨R.bv, 0, none⟩)], .slice R.Ab R.binders.length R.cb], v, .agg #[.int .i64 op, .string nm, .int .i64 nu, .slice A l.length c]] w (SortEnd base w q) := by
 obtain ⟨Aw, cw, rfl⟩ := Kd.R_slice hR
 have HQ := Aside0.mk hq
 clear hq
 have hre2 : (re = 0) = False := eq_false hre
 have hre3 : (re == 0) = false := by simpa using hre
 clear hre
 have xr := blk_alloc (blk_new w (.cells #[.slice R.As R.sorts.length R.cs, .slice R.Af R.funs.length R.cf, .func (.func 48) #[] #[.pointer (some ⟨R.bv, 0, none⟩)], .slice R.Ab R.binders.length R.cb] 69)) (.cells #[.int .i64 op, .string nm, .int .i64 nu, .slice A l.length c] 29)
 have xt : ((w.alloc (.cells #[.slice R.As R.sorts.length R.cs, .slice R.Af R.funs.length R.cf, .func (.func 48) #[] #[.pointer (some ⟨R.bv, 0, none⟩)], .slice R.Ab R.binders.length R.cb] 69)).alloc (.cells #[.int .i64 op, .string nm, .int .i64 nu, .slice A l.length c] 29)).heap[w.heap.size + 1]? = some (.cells #[.int .i64 op, .string nm, .int .i64 nu, .slice A l.length c] 29 (0, 0)) := by simpa using blk_new (w.alloc (.cells #[.slice R.As R.sorts.length R.cs, .slice R.Af R.funs.length R.cf, .func (.func 48) #[] #[.pointer (some ⟨R.bv, 0, none⟩)], .slice R.Ab R.binders.length R.cb] 69)) (.cells #[.int .i64 op, .string nm, .int .i64 nu, .slice A l.length c] 29)
 have hb0 : Below w.heap.size w ((w.alloc (.cells #[.slice R.As R.sorts.length R.cs, .slice R.Af R.funs.length R.cf, .func (.func 48) #[] #[.pointer (some ⟨R.bv, 0, none⟩)], .slice R.Ab R.binders.length R.cb] 69)).alloc (.cells #[.int .i64 op, .string nm, .int .i64 nu, .slice A l.length c] 29)) := below_alloc (below_alloc (Below.refl _ _) _) _
 have HALL := Aside0.mk (hall _ hb0)
 have XR := Aside0.mk xr
 have XT := Aside0.mk xt
 have HB0 := Aside0.mk hb0
 have HR := Aside0.mk hR
 have HRM := Aside0.mk hRM
 clear hall xr xt hb0 hR hRM
 go_enter Tryd.func26, Tryd.ntmps26
 go_wp2_with fail
 refine HALL.out.mono ?_
 rintro e w1 ⟨Ah, ch, v1, rfl, hhc, hH, hr1, hb1⟩
 have hB1 := below_step HB0.out hb1
 have xr := blk_below XR.out hb1
 have xt := blk_below XT.out hb1
 obtain ⟨k0, k1, k2, k3, _⟩ := cells4 xr
 obtain ⟨k4, k5, k6, k7, _⟩ := cells4 xt
 have HB1 := Aside0.mk hB1
 have HH := Aside0.mk hH
 have HR1 := Aside0.mk hr1
 clear XR XT HALL HB0
 have XR := Aside0.mk xr
 have XT := Aside0.mk xt
 clear hB1 hb1 hH hr1 xr xt
 go_wp2
 refine bodyPost_ret (ret3_tmps rfl _ _) rfl ?_
 rw [HQ.out]
 exact ⟨_, rfl, HR1.out, HB1.out⟩

set_option maxRecDepth 100000 in
set_option maxHeartbeats 8000000 in
theorem term_var (R : RoomP) (base : Nat) (op : Int) (nm : ByteArray) (nu : Int) (n : Nat) (l : List S29) (A : Option Addr) (c : Nat) (v : Value) (way : List Int) (w : World) (hRM : RoomAt R w) (hR : Kd.R (Kd.int .i64) 3 w base (fun _ => True) v way) (hbase : base ≤ w.heap.size) (hway : way.length ≤ 1000) (has : List ByteArray) (ra : List Int) (re : Int) (q : ByteArray × List Int × Int)
  (hall : ∀ W, Below w.heap.size w W → Calls Tryd.prog 51 #[.agg #[.slice R.As R.sorts.length R.cs, .slice R.Af R.funs.length R.cf, .func (.func 48) #[] #[.pointer (some ⟨R.bv, 0, none⟩)], .slice R.Ab R.binders.length R.cb], v, .slice A l.length c] W (All3 base W has ra re)) (hq : q = (if (sortL R.vars nm).2 = true then ((sortL R.vars nm).1, [], 0) else (⟨#[]⟩, way, 10))) (hre : re = 0) :
  Calls Tryd.prog 26 #[.agg #[.slice R.As R.sorts.length R.cs, .slice R.Af R.funs.length R.cf, .func (.func 48) #[] #[.pointer (some ⟨R.bv, 0, none⟩)], .slice R.Ab R.binders.length R.cb], v, .agg #[.int .i64 1, .string nm, .int .i64 nu, .slice A l.length c]] w (SortEnd base w q) := by
 obtain ⟨Aw, cw, rfl⟩ := Kd.R_slice hR
 have HQ := Aside0.mk hq
 clear hq
 subst hre
 have xr := blk_alloc (blk_new w (.cells #[.slice R.As R.sorts.length R.cs, .slice R.Af R.funs.length R.cf, .func (.func 48) #[] #[.pointer (some ⟨R.bv, 0, none⟩)], .slice R.Ab R.binders.length R.cb] 69)) (.cells #[.int .i64 1, .string nm, .int .i64 nu, .slice A l.length c] 29)
 have xt : ((w.alloc (.cells #[.slice R.As R.sorts.length R.cs, .slice R.Af R.funs.length R.cf, .func (.func 48) #[] #[.pointer (some ⟨R.bv, 0, none⟩)], .slice R.Ab R.binders.length R.cb] 69)).alloc (.cells #[.int .i64 1, .string nm, .int .i64 nu, .slice A l.length c] 29)).heap[w.heap.size + 1]? = some (.cells #[.int .i64 1, .string nm, .int .i64 nu, .slice A l.length c] 29 (0, 0)) := by simpa using blk_new (w.alloc (.cells #[.slice R.As R.sorts.length R.cs, .slice R.Af R.funs.length R.cf, .func (.func 48) #[] #[.pointer (some ⟨R.bv, 0, none⟩)], .slice R.Ab R.binders.length R.cb] 69)) (.cells #[.int .i64 1, .string nm, .int .i64 nu, .slice A l.length c] 29)
 have hb0 : Below w.heap.size w ((w.alloc (.cells #[.slice R.As R.sorts.length R.cs, .slice R.Af R.funs.length R.cf, .func (.func 48) #[] #[.pointer (some ⟨R.bv, 0, none⟩)], .slice R.Ab R.binders.length R.cb] 69)).alloc (.cells #[.int .i64 1, .string nm, .int .i64 nu, .slice A l.length c] 29)) := below_alloc (below_alloc (Below.refl _ _) _) _
 have HALL := Aside0.mk (hall _ hb0)
 have XR := Aside0.mk xr
 have XT := Aside0.mk xt
 have HB0 := Aside0.mk hb0
 have HR := Aside0.mk hR
 have HRM := Aside0.mk hRM
 clear hall xr xt hb0 hR hRM
 go_enter Tryd.func26, Tryd.ntmps26
 go_wp2_with fail
 refine HALL.out.mono ?_
 rintro e w1 ⟨Ah, ch, v1, rfl, hhc, hH, hr1, hb1⟩
 have hB1 := below_step HB0.out hb1
 have xr := blk_below XR.out hb1
 have xt := blk_below XT.out hb1
 obtain ⟨k0, k1, k2, k3, _⟩ := cells4 xr
 obtain ⟨k4, k5, k6, k7, _⟩ := cells4 xt
 have HB1 := Aside0.mk hB1
 have HH := Aside0.mk hH
 have HR1 := Aside0.mk hr1
 clear XR XT HALL HB0
 have XR := Aside0.mk xr
 have XT := Aside0.mk xt
 clear hB1 hb1 hH hr1 xr xt
 have hs := sort_any R.bv R.Av R.cv R.vars nm w1 (blk_below HRM.out.b HB1.out) (Kd.C_below HRM.out.v HB1.out) HRM.out.vl
 have HS := Aside0.mk hs
 clear hs
 go_wp2_with fail
 refine HS.out.mono ?_
 clear HS
 obtain ⟨⟨s1, s2⟩, hs⟩ : ∃ s, s = sortL R.vars nm := ⟨_, rfl⟩
 rw [← hs]
 dsimp only
 rintro e w2 ⟨rfl, hb2⟩
 have HS := Aside0.mk hs
 have HB2 := Aside0.mk (below_step HB1.out hb2)
 clear hs hb2
 cases s2 with
 | true =>
  go_wp2
  refine bodyPost_ret (ret3_tmps rfl _ _) rfl ?_
  rw [HQ.out, ← HS.out]
  exact ⟨_, rfl, Kd.R_nil _ _ _ _ _, HB2.out⟩
 | false =>
  go_wp2
  refine bodyPost_ret (ret3_tmps rfl _ _) rfl ?_
  rw [HQ.out, ← HS.out]
  exact ⟨_, rfl, (show Kd.R (Kd.int .i64) 3 w2 base (fun _ => True) (.slice Aw way.length cw) way from Kd.R_below HR.out HB2.out), HB2.out⟩

set_option maxRecDepth 100000 in
set_option maxHeartbeats 8000000 in
theorem term_bound (R : RoomP) (base : Nat) (op : Int) (nm : ByteArray) (nu : Int) (n : Nat) (l : List S29) (A : Option Addr) (c : Nat) (v : Value) (way : List Int) (w : World) (hRM : RoomAt R w) (hR : Kd.R (Kd.int .i64) 3 w base (fun _ => True) v way) (hbase : base ≤ w.heap.size) (hway : way.length ≤ 1000) (has : List ByteArray) (ra : List Int) (re : Int) (q : ByteArray × List Int × Int)
  (hall : ∀ W, Below w.heap.size w W → Calls Tryd.prog 51 #[.agg #[.slice R.As R.sorts.length R.cs, .slice R.Af R.funs.length R.cf, .func (.func 48) #[] #[.pointer (some ⟨R.bv, 0, none⟩)], .slice R.Ab R.binders.length R.cb], v, .slice A l.length c] W (All3 base W has ra re)) (hq : q = (if R.binders.length ≤ n then (⟨#[]⟩, way, 13) else (R.binders.getD (R.binders.length - 1 - n) ⟨#[]⟩, [], 0))) (hre : re = 0) :
  Calls Tryd.prog 26 #[.agg #[.slice R.As R.sorts.length R.cs, .slice R.Af R.funs.length R.cf, .func (.func 48) #[] #[.pointer (some ⟨R.bv, 0, none⟩)], .slice R.Ab R.binders.length R.cb], v, .agg #[.int .i64 2, .string nm, .int .i64 (n : Int), .slice A l.length c]] w (SortEnd base w q) := by
 obtain ⟨Aw, cw, rfl⟩ := Kd.R_slice hR
 have HQ := Aside0.mk hq
 clear hq
 subst hre
 have xr := blk_alloc (blk_new w (.cells #[.slice R.As R.sorts.length R.cs, .slice R.Af R.funs.length R.cf, .func (.func 48) #[] #[.pointer (some ⟨R.bv, 0, none⟩)], .slice R.Ab R.binders.length R.cb] 69)) (.cells #[.int .i64 2, .string nm, .int .i64 (n : Int), .slice A l.length c] 29)
 have xt : ((w.alloc (.cells #[.slice R.As R.sorts.length R.cs, .slice R.Af R.funs.length R.cf, .func (.func 48) #[] #[.pointer (some ⟨R.bv, 0, none⟩)], .slice R.Ab R.binders.length R.cb] 69)).alloc (.cells #[.int .i64 2, .string nm, .int .i64 (n : Int), .slice A l.length c] 29)).heap[w.heap.size + 1]? = some (.cells #[.int .i64 2, .string nm, .int .i64 (n : Int), .slice A l.length c] 29 (0, 0)) := by simpa using blk_new (w.alloc (.cells #[.slice R.As R.sorts.length R.cs, .slice R.Af R.funs.length R.cf, .func (.func 48) #[] #[.pointer (some ⟨R.bv, 0, none⟩)], .slice R.Ab R.binders.length R.cb] 69)) (.cells #[.int .i64 2, .string nm, .int .i64 (n : Int), .slice A l.length c] 29)
 have hb0 : Below w.heap.size w ((w.alloc (.cells #[.slice R.As R.sorts.length R.cs, .slice R.Af R.funs.length R.cf, .func (.func 48) #[] #[.pointer (some ⟨R.bv, 0, none⟩)], .slice R.Ab R.binders.length R.cb] 69)).alloc (.cells #[.int .i64 2, .string nm, .int .i64 (n : Int), .slice A l.length c] 29)) := below_alloc (below_alloc (Below.refl _ _) _) _
 have HALL := Aside0.mk (hall _ hb0)
 have XR := Aside0.mk xr
 have XT := Aside0.mk xt
 have HB0 := Aside0.mk hb0
 have HR := Aside0.mk hR
 have HRM := Aside0.mk hRM
 clear hall xr xt hb0 hR hRM
 go_enter Tryd.func26, Tryd.ntmps26
 go_wp2_with fail
 refine HALL.out.mono ?_
 rintro e w1 ⟨Ah, ch, v1, rfl, hhc, hH, hr1, hb1⟩
 have hB1 := below_step HB0.out hb1
 have xr := blk_below XR.out hb1
 have xt := blk_below XT.out hb1
 obtain ⟨k0, k1, k2, k3, _⟩ := cells4 xr
 obtain ⟨k4, k5, k6, k7, _⟩ := cells4 xt
 have HB1 := Aside0.mk hB1
 have HH := Aside0.mk hH
 have HR1 := Aside0.mk hr1
 clear XR XT HALL HB0
 have XR := Aside0.mk xr
 have XT := Aside0.mk xt
 clear hB1 hb1 hH hr1 xr xt
 by_cases hn : R.binders.length ≤ n
 ·
  have HQ := Aside0.mk (HQ.out.trans (if_pos hn))
  have hd0 : decide ((R.binders.length : Int) ≤ (n : Int)) = true := decide_eq_true (by omega)
  have hd1 : decide (R.binders.length ≤ n) = true := decide_eq_true hn
  clear hn
  go_wp2
  refine bodyPost_ret (ret3_tmps rfl _ _) rfl ?_
  rw [HQ.out]
  exact ⟨_, rfl, Kd.R_below HR.out HB1.out, HB1.out⟩
 ·
  have HQ := Aside0.mk (HQ.out.trans (if_neg hn))
  have hd0 : decide ((R.binders.length : Int) ≤ (n : Int)) = false := decide_eq_false (by omega)
  have hd1 : decide (R.binders.length ≤ n) = false := decide_eq_false hn
  obtain ⟨ad, hA, hx⟩ := str_at (Kd.C_below HRM.out.d HB1.out) (R.binders.length - 1 - n) (by omega)
  have hget : R.binders.getD (R.binders.length - 1 - n) ⟨#[]⟩ = R.binders[R.binders.length - 1 - n]'(by omega) := by rw [List.getD_eq_getElem?_getD, List.getElem?_eq_getElem (by omega)]; rfl
  rw [← hget] at hx
  have hq : ((R.binders.length : Int) - 1 - (n : Int)).toNat = R.binders.length - 1 - n := by omega
  have hlen : R.binders.length ≤ 9223372036854775807 := HRM.out.d.2.1
  have hq0 : 0 ≤ (R.binders.length : Int) - 1 - (n : Int) := by omega
  have hq1 : (R.binders.length : Int) - 1 - (n : Int) < (R.binders.length : Int) := by omega
  clear hn hget
  rw [hA] at k3
  obtain ⟨bs, hbs⟩ : ∃ bs, bs = R.binders.getD (R.binders.length - 1 - n) ⟨#[]⟩ := ⟨_, rfl⟩
  have HQ2 := Aside0.mk (HQ.out.trans (by rw [← hbs]))
  rw [← hbs] at hx
  clear hbs HQ
  clear hq
  go_wp2
  refine bodyPost_ret (ret3_tmps rfl _ _) rfl ?_
  rw [HQ2.out]
  exact ⟨_, rfl, Kd.R_nil _ _ _ _ _, HB1.out⟩

set_option maxRecDepth 100000 in
set_option maxHeartbeats 8000000 in
theorem term_app (R : RoomP) (base : Nat) (op : Int) (nm : ByteArray) (nu : Int) (n : Nat) (l : List S29) (A : Option Addr) (c : Nat) (v : Value) (way : List Int) (w : World) (hRM : RoomAt R w) (hR : Kd.R (Kd.int .i64) 3 w base (fun _ => True) v way) (hbase : base ≤ w.heap.size) (hway : way.length ≤ 1000) (has : List ByteArray) (ra : List Int) (re : Int) (q : ByteArray × List Int × Int)
  (hall : ∀ W, Below w.heap.size w W → Calls Tryd.prog 51 #[.agg #[.slice R.As R.sorts.length R.cs, .slice R.Af R.funs.length R.cf, .func (.func 48) #[] #[.pointer (some ⟨R.bv, 0, none⟩)], .slice R.Ab R.binders.length R.cb], v, .slice A l.length c] W (All3 base W has ra re)) (hq : q = (applyR way (findL R.funs nm).1 (kindB (findL R.funs nm) false) has)) (hre : re = 0) (hhl : has.length ≤ 1000) :
  Calls Tryd.prog 26 #[.agg #[.slice R.As R.sorts.length R.cs, .slice R.Af R.funs.length R.cf, .func (.func 48) #[] #[.pointer (some ⟨R.bv, 0, none⟩)], .slice R.Ab R.binders.length R.cb], v, .agg #[.int .i64 3, .string nm, .int .i64 nu, .slice A l.length c]] w (SortEnd base w q) := by
 obtain ⟨Aw, cw, rfl⟩ := Kd.R_slice hR
 have HQ := Aside0.mk hq
 clear hq
 subst hre
 have xr := blk_alloc (blk_new w (.cells #[.slice R.As R.sorts.length R.cs, .slice R.Af R.funs.length R.cf, .func (.func 48) #[] #[.pointer (some ⟨R.bv, 0, none⟩)], .slice R.Ab R.binders.length R.cb] 69)) (.cells #[.int .i64 3, .string nm, .int .i64 nu, .slice A l.length c] 29)
 have xt : ((w.alloc (.cells #[.slice R.As R.sorts.length R.cs, .slice R.Af R.funs.length R.cf, .func (.func 48) #[] #[.pointer (some ⟨R.bv, 0, none⟩)], .slice R.Ab R.binders.length R.cb] 69)).alloc (.cells #[.int .i64 3, .string nm, .int .i64 nu, .slice A l.length c] 29)).heap[w.heap.size + 1]? = some (.cells #[.int .i64 3, .string nm, .int .i64 nu, .slice A l.length c] 29 (0, 0)) := by simpa using blk_new (w.alloc (.cells #[.slice R.As R.sorts.length R.cs, .slice R.Af R.funs.length R.cf, .func (.func 48) #[] #[.pointer (some ⟨R.bv, 0, none⟩)], .slice R.Ab R.binders.length R.cb] 69)) (.cells #[.int .i64 3, .string nm, .int .i64 nu, .slice A l.length c] 29)
 have hb0 : Below w.heap.size w ((w.alloc (.cells #[.slice R.As R.sorts.length R.cs, .slice R.Af R.funs.length R.cf, .func (.func 48) #[] #[.pointer (some ⟨R.bv, 0, none⟩)], .slice R.Ab R.binders.length R.cb] 69)).alloc (.cells #[.int .i64 3, .string nm, .int .i64 nu, .slice A l.length c] 29)) := below_alloc (below_alloc (Below.refl _ _) _) _
 have HALL := Aside0.mk (hall _ hb0)
 have XR := Aside0.mk xr
 have XT := Aside0.mk xt
 have HB0 := Aside0.mk hb0
 have HR := Aside0.mk hR
 have HRM := Aside0.mk hRM
 clear hall xr xt hb0 hR hRM
 go_enter Tryd.func26, Tryd.ntmps26
 go_wp2_with fail
 refine HALL.out.mono ?_
 rintro e w1 ⟨Ah, ch, v1, rfl, hhc, hH, hr1, hb1⟩
 have hB1 := below_step HB0.out hb1
 have xr := blk_below XR.out hb1
 have xt := blk_below XT.out hb1
 obtain ⟨k0, k1, k2, k3, _⟩ := cells4 xr
 obtain ⟨k4, k5, k6, k7, _⟩ := cells4 xt
 have HB1 := Aside0.mk hB1
 have HH := Aside0.mk hH
 have HR1 := Aside0.mk hr1
 clear XR XT HALL HB0
 have XR := Aside0.mk xr
 have XT := Aside0.mk xt
 clear hB1 hb1 hH hr1 xr xt
 have hfd := room_find R.As R.cs R.sorts R.Af R.cf R.funs R.bv R.Ab R.binders.length R.cb nm false w1 (Kd.C_below HRM.out.s HB1.out) HRM.out.sl (Kd.C_below HRM.out.f HB1.out) HRM.out.fl
 have HFD := Aside0.mk hfd
 clear hfd
 go_wp2_with fail
 refine HFD.out.mono ?_
 clear HFD
 obtain ⟨ok, hok⟩ : ∃ ok, ok = kindB (findL R.funs nm) false := ⟨_, rfl⟩
 rw [← hok]
 have HQ1 := HQ.out
 rw [← hok] at HQ1
 obtain ⟨f, hf⟩ : ∃ f, f = (findL R.funs nm).1 := ⟨_, rfl⟩
 rw [← hf] at HQ1 ⊢
 have HQ2 := Aside0.mk HQ1
 clear hok hf HQ HQ1
 rintro e w2 ⟨A2, c2, rfl, hl2, hC2, hb2⟩
 have hB2 := below_step HB1.out hb2
 have hap := room_apply base (.slice R.As R.sorts.length R.cs) (.slice R.Af R.funs.length R.cf) (.func (.func 48) #[] #[.pointer (some ⟨R.bv, 0, none⟩)]) (.slice R.Ab R.binders.length R.cb) rfl rfl rfl rfl (.slice Aw way.length cw) way f A2 c2 ok Ah ch has (w2.alloc (.cells #[.string f.f0, .slice A2 f.f1.length c2, .string f.f2] 63)) (Kd.R_alloc (Kd.R_below HR.out hB2) _) (by have := hB2.size; simp; omega) (by omega) (Kd.C_alloc (Kd.C_below HH.out hb2) _) hhc (Kd.C_alloc hC2 _) hl2 (by omega)
 have HAP := Aside0.mk hap
 obtain ⟨k0, k1, k2, k3, _⟩ := cells4 (blk_alloc (blk_below XR.out hb2) (.cells #[.string f.f0, .slice A2 f.f1.length c2, .string f.f2] 63))
 have HB2 := Aside0.mk hB2
 clear hap hC2 hb2 hB2 XR XT
 go_wp2_with fail
 refine HAP.out.mono ?_
 clear HAP
 obtain ⟨p, hp⟩ : ∃ p, p = applyR way f ok has := ⟨_, rfl⟩
 rw [← hp]
 have HQ3 := Aside0.mk (HQ2.out.trans hp.symm)
 clear hp HQ2
 rintro e w3 ⟨v3, rfl, hr3, hb3⟩
 have HR3 := Aside0.mk hr3
 have HB3 := Aside0.mk (below_step (below_alloc HB2.out _) hb3)
 clear hr3 hb3
 go_wp2
 refine bodyPost_ret (ret3_tmps rfl _ _) rfl ?_
 rw [HQ3.out]
 exact ⟨_, rfl, HR3.out, HB3.out⟩

set_option maxRecDepth 100000 in
set_option maxHeartbeats 8000000 in
theorem term_num (R : RoomP) (base : Nat) (op : Int) (nm : ByteArray) (nu : Int) (n : Nat) (l : List S29) (A : Option Addr) (c : Nat) (v : Value) (way : List Int) (w : World) (hRM : RoomAt R w) (hR : Kd.R (Kd.int .i64) 3 w base (fun _ => True) v way) (hbase : base ≤ w.heap.size) (hway : way.length ≤ 1000) (has : List ByteArray) (ra : List Int) (re : Int) (q : ByteArray × List Int × Int)
  (hall : ∀ W, Below w.heap.size w W → Calls Tryd.prog 51 #[.agg #[.slice R.As R.sorts.length R.cs, .slice R.Af R.funs.length R.cf, .func (.func 48) #[] #[.pointer (some ⟨R.bv, 0, none⟩)], .slice R.Ab R.binders.length R.cb], v, .slice A l.length c] W (All3 base W has ra re)) (hq : q = (match askL has (List.replicate has.length intS) 0 with | some i => (⟨#[]⟩, (askR way 0 (some i)).1, 11) | none => (intS, [], 0))) (hre : re = 0) (hop : 3 < op) (hhl : has.length ≤ 2) :
  Calls Tryd.prog 26 #[.agg #[.slice R.As R.sorts.length R.cs, .slice R.Af R.funs.length R.cf, .func (.func 48) #[] #[.pointer (some ⟨R.bv, 0, none⟩)], .slice R.Ab R.binders.length R.cb], v, .agg #[.int .i64 op, .string nm, .int .i64 nu, .slice A l.length c]] w (SortEnd base w q) := by
 obtain ⟨Aw, cw, rfl⟩ := Kd.R_slice hR
 have HQ := Aside0.mk hq
 clear hq
 subst hre
 have o1 : (op == 1) = false := by rw [beq_eq_false_iff_ne]; omega
 have o2 : (op == 2) = false := by rw [beq_eq_false_iff_ne]; omega
 have o3 : (op == 3) = false := by rw [beq_eq_false_iff_ne]; omega
 have o4 : (op = 1) = False := eq_false (by omega)
 have o5 : (op = 2) = False := eq_false (by omega)
 have o6 : (op = 3) = False := eq_false (by omega)
 clear hop
 have xr := blk_alloc (blk_new w (.cells #[.slice R.As R.sorts.length R.cs, .slice R.Af R.funs.length R.cf, .func (.func 48) #[] #[.pointer (some ⟨R.bv, 0, none⟩)], .slice R.Ab R.binders.length R.cb] 69)) (.cells #[.int .i64 op, .string nm, .int .i64 nu, .slice A l.length c] 29)
 have xt : ((w.alloc (.cells #[.slice R.As R.sorts.length R.cs, .slice R.Af R.funs.length R.cf, .func (.func 48) #[] #[.pointer (some ⟨R.bv, 0, none⟩)], .slice R.Ab R.binders.length R.cb] 69)).alloc (.cells #[.int .i64 op, .string nm, .int .i64 nu, .slice A l.length c] 29)).heap[w.heap.size + 1]? = some (.cells #[.int .i64 op, .string nm, .int .i64 nu, .slice A l.length c] 29 (0, 0)) := by simpa using blk_new (w.alloc (.cells #[.slice R.As R.sorts.length R.cs, .slice R.Af R.funs.length R.cf, .func (.func 48) #[] #[.pointer (some ⟨R.bv, 0, none⟩)], .slice R.Ab R.binders.length R.cb] 69)) (.cells #[.int .i64 op, .string nm, .int .i64 nu, .slice A l.length c] 29)
 have hb0 : Below w.heap.size w ((w.alloc (.cells #[.slice R.As R.sorts.length R.cs, .slice R.Af R.funs.length R.cf, .func (.func 48) #[] #[.pointer (some ⟨R.bv, 0, none⟩)], .slice R.Ab R.binders.length R.cb] 69)).alloc (.cells #[.int .i64 op, .string nm, .int .i64 nu, .slice A l.length c] 29)) := below_alloc (below_alloc (Below.refl _ _) _) _
 have HALL := Aside0.mk (hall _ hb0)
 have XR := Aside0.mk xr
 have XT := Aside0.mk xt
 have HB0 := Aside0.mk hb0
 have HR := Aside0.mk hR
 have HRM := Aside0.mk hRM
 clear hall xr xt hb0 hR hRM
 go_enter Tryd.func26, Tryd.ntmps26
 go_wp2_with fail
 refine HALL.out.mono ?_
 rintro e w1 ⟨Ah, ch, v1, rfl, hhc, hH, hr1, hb1⟩
 have hB1 := below_step HB0.out hb1
 have xr := blk_below XR.out hb1
 have xt := blk_below XT.out hb1
 obtain ⟨k0, k1, k2, k3, _⟩ := cells4 xr
 obtain ⟨k4, k5, k6, k7, _⟩ := cells4 xt
 have HB1 := Aside0.mk hB1
 have HH := Aside0.mk hH
 have HR1 := Aside0.mk hr1
 clear XR XT HALL HB0
 have XR := Aside0.mk xr
 have XT := Aside0.mk xt
 clear hB1 hb1 hH hr1 xr xt
 have hrep : Calls Tryd.prog 55 #[.slice (some ⟨w1.heap.size, 0, none⟩) 1 1, .int .i64 (has.length : Int)] (w1.alloc (.cells #[.string intS] 9)) (RepEnd has.length intS (w1.alloc (.cells #[.string intS] 9))) := by
  have h3 : has.length = 0 ∨ has.length = 1 ∨ has.length = 2 := by omega
  rcases h3 with h | h | h <;> rw [h]
  ·
   exact rep_0 _ _ _ (blk_new _ _)
  ·
   exact rep_1 _ _ _ (blk_new _ _)
  ·
   exact rep_2 _ _ _ (blk_new _ _)
 have HREP := Aside0.mk hrep
 have hhn : 0 ≤ (has.length : Int) := by omega
 clear hrep
 go_wp2_with fail
 refine HREP.out.mono ?_
 clear HREP
 rintro e w2 ⟨A2, c2, rfl, hl2, hC2, hb2⟩
 have hB2 := below_step (below_alloc HB1.out (.cells #[.string intS] 9)) hb2
 have hask := ask_any base (.slice Aw way.length cw) way 0 Ah ch has A2 c2 (List.replicate has.length intS) w2 (Kd.R_below HR.out hB2) (Nat.le_trans hbase hB2.size) (by omega) (by omega) (by omega) (Kd.C_below (Kd.C_alloc HH.out _) hb2) hhc (by rw [List.length_replicate]; exact hC2) (by rw [List.length_replicate]; exact hl2) (by rw [List.length_replicate]; exact Nat.le_refl _) (by rw [List.length_replicate]; omega)
 rw [List.length_replicate] at hask
 have HASK := Aside0.mk hask
 have HB2 := Aside0.mk hB2
 clear hask hb2 hB2 hC2 XR XT
 go_wp2_with fail
 refine HASK.out.mono ?_
 clear HASK
 cases hqq : askL has (List.replicate has.length intS) 0 with
 | none =>
  have HQ2 := Aside0.mk (HQ.out.trans (by rw [hqq]))
  clear hqq
  rintro e w3 ⟨v3, rfl, hr3, hb3⟩
  have HB3 := Aside0.mk (below_step HB2.out hb3)
  clear hr3 hb3
  dsimp only [askR]
  go_wp2
  refine bodyPost_ret (ret3_tmps rfl _ _) rfl ?_
  rw [HQ2.out]
  exact ⟨_, rfl, Kd.R_nil _ _ _ _ _, HB3.out⟩
 | some i =>
  have HQ2 := Aside0.mk (HQ.out.trans (by rw [hqq]))
  clear hqq
  rintro e w3 ⟨v3, rfl, hr3, hb3⟩
  have HR3 := Aside0.mk hr3
  have HB3 := Aside0.mk (below_step HB2.out hb3)
  clear hr3 hb3
  dsimp only [askR]
  go_wp2
  refine bodyPost_ret (ret3_tmps rfl _ _) rfl ?_
  rw [HQ2.out]
  exact ⟨_, rfl, HR3.out, HB3.out⟩

/-- All parts of a term may be. -/
def okT (x : S29) : Prop := ∀ k ∈ keysT x, partE k.1 k.2.1 k.2.2.1 k.2.2.2 = 0
theorem firstE_ok : ∀ l : List (Int × ByteArray × Int × Nat), firstE l = 0 → ∀ k ∈ l, partE k.1 k.2.1 k.2.2.1 k.2.2.2 = 0
 | [], _, k, hk => by simp at hk
 | (op, nm, nu, n) :: l, h, k, hk => by
  rw [firstE] at h
  by_cases h0 : partE op nm nu n = 0
  ·
   rw [if_neg (by simpa using h0)] at h
   rcases List.mem_cons.1 hk with rfl | hk
   ·
    exact h0
   ·
    exact firstE_ok l h k hk
  ·
   rw [if_pos h0] at h
   exact absurd h h0
theorem keysL_mem (y : S29) : ∀ l : List S29, y ∈ l → ∀ k ∈ keysT y, k ∈ keysL l
 | [], h, _, _ => by simp at h
 | x :: l, h, k, hk => by
  rw [keysL, List.mem_append]
  rcases List.mem_cons.1 h with rfl | h
  ·
   exact .inl hk
  ·
   exact .inr (keysL_mem y l h k hk)
theorem okT_arg {x : S29} (h : okT x) (y : S29) (hy : y ∈ x.f3) : okT y := fun k hk => h k (by rw [keysT_eq]; exact List.mem_cons_of_mem _ (keysL_mem y _ hy k hk))
theorem depL_mem (y : S29) : ∀ l : List S29, y ∈ l → depT y ≤ depL l
 | [], h => by simp at h
 | x :: l, h => by
  rw [depL]
  rcases List.mem_cons.1 h with rfl | h
  ·
   omega
  ·
   have := depL_mem y l h; omega
theorem okT_own {x : S29} (h : okT x) : partE x.f0 x.f1 x.f2 x.f3.length = 0 := h (x.f0, x.f1, x.f2, x.f3.length) (by rw [keysT_eq]; exact List.mem_cons_self)
/-- What a part that may be has. -/
theorem part_ok {op : Int} {nm : ByteArray} {nu : Int} {n : Nat} (h : partE op nm nu n = 0) : 1 ≤ op ∧ op ≤ 8 ∧ n ≤ 8 ∧ (op = 2 → 0 ≤ nu) ∧ (3 < op → n ≤ 2) := by
 unfold partE at h
 split at h
 ·
  cases h
 ·
  rename_i h1
  split at h
  ·
   cases h
  ·
   split at h
   ·
    cases h
   ·
    split at h
    ·
     cases h
    ·
     rename_i h2
     split at h
     ·
      cases h
     ·
      rename_i h3
      have h8 : op = 1 ∨ op = 2 ∨ op = 3 ∨ op = 4 ∨ op = 5 ∨ op = 6 ∨ op = 7 ∨ op = 8 := by omega
      rcases h8 with rfl | rfl | rfl | rfl | rfl | rfl | rfl | rfl <;> simp [needsTab] at h3 <;> omega
theorem wAll_len (funs : List S63) (vars : List S65) (binders : List ByteArray) (way : List Int) : ∀ (l : List S29) (i : Nat) (acc : List ByteArray), (wAll funs vars binders l way i acc).2.2 = 0 → (wAll funs vars binders l way i acc).1.length = acc.length + l.length
 | [], i, acc, _ => by simp [wAll]
 | t :: l, i, acc, h => by
  rw [wAll] at h ⊢
  by_cases h0 : (wTerm funs vars binders t (way ++ [(i : Int)])).2.2 ≠ 0
  ·
   rw [if_pos h0] at h
   exact absurd h h0
  ·
   rw [if_neg h0] at h ⊢
   rw [wAll_len funs vars binders way l _ _ h]
   simp; omega
theorem room_term (R : RoomP) (base : Nat) : ∀ (d : Nat) (x : S29), SizeOf.sizeOf x ≤ d → okT x → TermGoal R base x
 | 0, x, hd, _ => by cases x; simp at hd
 | d + 1, x, hd, hok => by
  intro A c v way w hRM hR hb hdep hlc hC
  have hown := part_ok (okT_own hok)
  have hargs : ∀ y ∈ x.f3, TermGoal R base y := fun y hy => room_term R base d y (by
   have h1 := List.sizeOf_lt_of_mem hy
   have h2 : SizeOf.sizeOf x.f3 < SizeOf.sizeOf x := by cases x; simp; omega
   omega) (okT_arg hok y hy)
  rw [depT_eq] at hdep
  obtain ⟨op, nm, nu, l⟩ := x
  dsimp only at hown hargs hdep hlc hC ⊢
  obtain ⟨o1, o8, n8, hbd, hn2⟩ := hown
  have hall := fun W (hW : Below w.heap.size w W) => room_all R base l hargs A c v way W (hRM.below hW) (Kd.R_below hR hW) (Nat.le_trans hb hW.size) (by omega) hlc (Kd.C_below hC hW) (by omega)
  have hal : ∀ W, Below w.heap.size w W → Calls Tryd.prog 51 #[.agg #[.slice R.As R.sorts.length R.cs, .slice R.Af R.funs.length R.cf, .func (.func 48) #[] #[.pointer (some ⟨R.bv, 0, none⟩)], .slice R.Ab R.binders.length R.cb], v, .slice A l.length c] W (All3 base W (wAll R.funs R.vars R.binders l way 0 []).1 (wAll R.funs R.vars R.binders l way 0 []).2.1 (wAll R.funs R.vars R.binders l way 0 []).2.2) := hall
  clear hall
  rw [wTerm]
  have hlen := wAll_len R.funs R.vars R.binders way l 0 []
  obtain ⟨r, hr⟩ : ∃ r, r = wAll R.funs R.vars R.binders l way 0 [] := ⟨_, rfl⟩
  rw [← hr] at hal hlen ⊢
  clear hr
  by_cases hre : r.2.2 = 0
  ·
   have hlr := hlen hre
   simp only [List.length_nil, Nat.zero_add] at hlr
   rw [if_neg (by simpa using hre)]
   by_cases h1 : op = 1
   ·
    subst h1
    rw [if_pos rfl]
    exact term_var R base 1 nm nu 0 l A c v way w hRM hR hb (by omega) _ _ _ _ hal rfl hre
   ·
    rw [if_neg h1]
    by_cases h2 : op = 2
    ·
     subst h2
     rw [if_pos rfl]
     obtain ⟨n, rfl⟩ : ∃ n : Nat, nu = (n : Int) := ⟨nu.toNat, by have := hbd rfl; omega⟩
     refine term_bound R base 2 nm 0 n l A c v way w hRM hR hb (by omega) _ _ _ _ hal ?_ hre
     simp only [Int.ofNat_le, Int.toNat_natCast]
    ·
     rw [if_neg h2]
     by_cases h3 : op = 3
     ·
      subst h3
      rw [if_pos rfl]
      exact term_app R base 3 nm nu 0 l A c v way w hRM hR hb (by omega) _ _ _ _ hal rfl hre (by omega)
     ·
      rw [if_neg h3]
      exact term_num R base op nm nu 0 l A c v way w hRM hR hb (by omega) _ _ _ _ hal rfl hre (by omega) (by have := hn2 (by omega); omega)
  ·
   rw [if_pos hre]
   exact term_err R base op nm nu 0 l A c v way w hRM hR hb (by omega) _ _ _ _ hal rfl hre


end Go.Proofs.YtjmbdejejlcklaaDoor.Print
