-- own work: an evaluator of the program's code, and what it answers
import Derived.Test.YtdmoipccmbimhaaGreatDoorS1
import Derived.Test.YtdmoipccmbimhaaGreatDoorSizes
import Derived.Test.YtdmoipccmbimhaaGreatDoorProgAn
import Derived.Test.YtdmoipccmbimhaaGreatDoorEngB
/- What is wrong with a signature: package sign's Right, by hand (it keeps a map of its own). -/
set_option linter.unusedVariables false
set_option linter.unusedSimpArgs false
namespace Go.Eng
open Go Go.RowKit Go.Proofs
section
open Go.WideMaps Go.Maps Go.ChangeMaps
attribute [local go_sem] Oper.semAt_some
/-- what the machine answers, one number, the program answers -/
theorem evl_call {A : Ann} (hP : ProgOK Tryz.prog A) {w : World} (hl : A.laid w) (hg : GlobOK A (G0 w)) {f : Nat} {cs : List C} {vals : Array Value} (ha : RA (memF w) cs vals.toList) {n : Int}
    (h : evL Tryz.prog A 0 f (cs.map .c) [] = some (.c (.v (.int .i64 n)), [])) : Calls Tryz.prog f vals w fun e w' => e = .returned (.int .i64 n) ∧ Below w.heap.size w w' := by
  have hlen : ∀ {l : List C} {us : List Value}, RA (memF w) l us → l.length = us.length ∧ ∀ (i : Nat) x u, l[i]? = some x → us[i]? = some u → RC (memF w) x u.cells.toList ∧ x.isAgg = aggV u := by
    intro l
    induction l with
    | nil => intro us h; simp only [RA] at h; subst h; exact ⟨rfl, fun i x u h => by simp at h⟩
    | cons x l ih =>
      intro us h
      simp only [RA] at h
      obtain ⟨u, r, rfl, h1, h2, h3⟩ := h
      obtain ⟨k1, k2⟩ := ih h3
      refine ⟨by simp [k1], fun i y z hy hz => ?_⟩
      cases i with
      | zero => simp at hy hz; subst hy hz; exact ⟨h1, h2⟩
      | succ i => exact k2 i y z (by simpa using hy) (by simpa using hz)
  obtain ⟨h1, h2⟩ := hlen ha
  refine ((evL_ok hP).call _ _ _ _ _ _ h w (fun _ _ => none) (G0 w) w (fun _ => ([], #[])) vals (Inv.start hl hg) (fun k hk => by simp at hk) (by simpa using h1) (fun i x u hx hu => ?_) ?_).mono ?_
  · rw [List.getElem?_map] at hx
    obtain ⟨c, hc, rfl⟩ := Option.map_eq_some_iff.1 hx
    simp only [RV]
    exact h2 i c u hc (by simpa using hu)
  · clear h ha hlen h1 h2
    induction cs with
    | nil => rfl
    | cons x l ih => simp only [List.map_cons, upToL, V.upTo, Bool.true_and]; exact ih
  · rintro e w' ⟨u, g', rfl, hi, _, hr⟩
    refine ⟨?_, hi.below⟩
    simp only [RV, RC] at hr
    obtain ⟨⟨k1, _⟩, k2⟩ := hr
    cases u <;> simp [Value.cells, aggV, C.isAgg] at k1 k2
    · obtain ⟨rfl, rfl⟩ := k1; rfl
theorem grown_of_below {w w1 : World} (hb : Below w.heap.size w w1) (row : Option Nat) : w.grownBy w1 row := ⟨hb.os, hb.tape, hb.output, hb.size, fun i hi _ => hb.block i hi⟩
theorem SC.below {w0 w : World} {A : Option Addr} {l : List ByteArray} (h : SC w0 A l) (hb : Below w0.heap.size w0 w) : SC w A l := fun hl => by
  obtain ⟨b, o, s, e, k⟩ := h hl
  exact ⟨b, o, s, e, RE.mono (memF_le hb) k⟩
def FC (w : World) (A : Option Addr) (l : List Fu) : Prop := l ≠ [] → ∃ b o s, A = some ⟨b, o, none⟩ ∧ RE (memF w) b o s (l.map encF)
theorem FC.below {w0 w : World} {A : Option Addr} {l : List Fu} (h : FC w0 A l) (hb : Below w0.heap.size w0 w) : FC w A l := fun hl => by
  obtain ⟨b, o, s, e, k⟩ := h hl
  exact ⟨b, o, s, e, RE.mono (memF_le hb) k⟩
theorem FC.at {w0 W : World} {A : Option Addr} {l : List Fu} (h : FC w0 A l) (HB : Below w0.heap.size w0 W) (j : Nat) (f : Fu) (hj : l[j]? = some f) :
    ∃ ad A3 c3, A = some ad ∧ W.cell? (ad.add (j * 3)) = some (.string f.nm) ∧ W.cell? ⟨(ad.add (j * 3)).block, (ad.add (j * 3)).off + 1, none⟩ = some (.slice A3 f.args.length c3) ∧ W.cell? ⟨(ad.add (j * 3)).block, (ad.add (j * 3)).off + 2, none⟩ = some (.string f.res) ∧ f.args.length ≤ c3 ∧ SC w0 A3 f.args := by
  obtain ⟨b, o, s, rfl, hre⟩ := h (fun e => by rw [e] at hj; simp at hj)
  obtain ⟨vs, hvs, hat, hrc⟩ := RE.get hre (i := j) (y := encF f) (by rw [List.getElem?_map, hj]; rfl)
  simp only [encF, RC, RL, cS] at hrc
  obtain ⟨u0, r0, rfl, ⟨k0, _⟩, _, u1, r1, rfl, ⟨a, n, c, k3, hn, hc, hne⟩, _, u2, r2, rfl, ⟨k2, _⟩, _, rfl⟩ := hrc
  simp only [List.cons.injEq, and_true] at k0 k2 k3
  subst k0 k2 k3
  obtain rfl : s = 3 := by simpa using hvs.symm
  have c0 := hat 0 _ rfl
  have c1 := hat 1 _ rfl
  have c2 := hat 2 _ rfl
  simp only [memF, Nat.add_zero] at c0 c1 c2
  rw [List.length_map] at hn
  subst hn
  exact ⟨_, a, c, rfl, by rw [adr_add]; exact (HB.cell (World.block_lt_of_cell? w0 _ c0)).trans c0, by rw [adr_add]; exact (HB.cell (World.block_lt_of_cell? w0 _ c1)).trans c1, by rw [adr_add]; exact (HB.cell (World.block_lt_of_cell? w0 _ c2)).trans c2, hc, fun hl => by
    obtain ⟨b3, o3, s3, e, k⟩ := hne (by simpa using hl)
    exact ⟨b3, o3, s3, e, k⟩⟩
theorem rc_strs {w : World} {A : Option Addr} {l : List ByteArray} {c : Nat} (h : SC w A l) (hc : l.length ≤ c) : RC (memF w) (.sl (l.map cS)) [.slice A l.length c] := by
  simp only [RC]
  refine ⟨_, _, _, rfl, by simp, hc, fun hne => ?_⟩
  obtain ⟨b, o, s, e, k⟩ := h (by simpa using hne)
  exact ⟨b, o, s, e, k⟩
theorem rc_funs {w : World} {A : Option Addr} {l : List Fu} {c : Nat} (h : FC w A l) (hc : l.length ≤ c) : RC (memF w) (.sl (l.map encF)) [.slice A l.length c] := by
  simp only [RC]
  refine ⟨_, _, _, rfl, by simp, hc, fun hne => ?_⟩
  obtain ⟨b, o, s, e, k⟩ := h (by simpa using hne)
  exact ⟨b, o, s, e, k⟩
theorem rc_sign {w : World} {s : Sg} {A0 A1 : Option Addr} {c0 c1 : Nat} (h0 : SC w A0 s.sorts) (h1 : FC w A1 s.funs) (hc0 : s.sorts.length ≤ c0) (hc1 : s.funs.length ≤ c1) :
    RC (memF w) (encS s) [.slice A0 s.sorts.length c0, .slice A1 s.funs.length c1] := by
  simp only [encS, RC, RL]
  exact ⟨_, _, rfl, by simpa only [RC] using rc_strs h0 hc0, rfl, _, _, rfl, by simpa only [RC] using rc_funs h1 hc1, rfl, rfl⟩
theorem rc_fun {w : World} {f : Fu} {A : Option Addr} {c : Nat} (h : SC w A f.args) (hc : f.args.length ≤ c) : RC (memF w) (encF f) [.string f.nm, .slice A f.args.length c, .string f.res] := by
  simp only [encF, RC, RL, cS]
  exact ⟨_, _, rfl, ⟨rfl, rfl⟩, rfl, _, _, rfl, by simpa only [RC] using rc_strs h hc, rfl, _, _, rfl, ⟨rfl, rfl⟩, rfl, rfl⟩
theorem sortsE_len {l : List ByteArray} (h : sortsE l = 0) : l.length ≤ 64 := by
  unfold sortsE at h
  split at h
  · cases h
  · omega
theorem LaidA.below {w w' : World} (h : LaidA w) (hb : Below w.heap.size w w') : LaidA w' := ⟨h.1.below hb, h.2.below hb⟩
theorem sorts_any (l : List ByteArray) (A : Option Addr) (c : Nat) (w : World) (hl : l.length ≤ maxLen) (hs : ∀ x ∈ l, x.size ≤ maxLen) (hS : SC w A l) (hc : l.length ≤ c) (hLa : LaidA w) :
    Calls Tryz.prog 109 #[.slice A l.length c] w fun e w' => e = .returned (.int .i64 (sortsE l)) ∧ Below w.heap.size w w' :=
  evl_call progAn hLa (glob_ok rfl hLa.1) (cs := [.sl (l.map cS)]) (RA_cons ⟨by simpa [Value.cells] using rc_strs hS hc, rfl⟩ RA_nil) (sorts_ev l hl hs 0 [])
theorem check_any (s : Sg) (f : Fu) (A0 A1 A3 : Option Addr) (c0 c1 c3 : Nat) (w : World) (hs : s.sorts.length ≤ 2000000) (hf : okF f) (hS : SC w A0 s.sorts) (hF : FC w A1 s.funs) (h3 : SC w A3 f.args) (hc0 : s.sorts.length ≤ c0) (hc1 : s.funs.length ≤ c1) (hc3 : f.args.length ≤ c3) (hLa : LaidA w) :
    Calls Tryz.prog 110 #[.agg #[.slice A0 s.sorts.length c0, .slice A1 s.funs.length c1], .agg #[.string f.nm, .slice A3 f.args.length c3, .string f.res]] w fun e w' => e = .returned (.int .i64 (checkE s f)) ∧ Below w.heap.size w w' :=
  evl_call progAn hLa (glob_ok rfl hLa.1) (cs := [encS s, encF f]) (RA_cons ⟨by simpa [Value.cells] using rc_sign hS hF hc0 hc1, rfl⟩ (RA_cons ⟨by simpa [Value.cells] using rc_fun h3 hc3, rfl⟩ RA_nil)) (check_ev s f hs hf 0 [])
theorem meas_step {n i : Nat} (h : i < n) (hn : ¬ 256 < n) : n - (intOf (.int .i64 (Go.RowKit.wrap64 ((i : Int) + 1)))).toNat < n - (intOf (.int .i64 (i : Int))).toNat := by
  have hwr : Go.RowKit.wrap64 ((i : Int) + 1) = ((i + 1 : Nat) : Int) := by
    unfold Go.RowKit.wrap64
    omega
  rw [hwr]
  simp only [intOf, Int.toNat_natCast]
  omega
def hasN (fs : List Fu) (s : ByteArray) : Bool := fs.any fun g => isS s g.nm
def seenD (fs : List Fu) : DataW Unit := mapOf (fs.map fun f => f.nm)
theorem seen_at (fs : List Fu) (s : ByteArray) : (seenD fs).atKey (.string s.data.toList) (.lit (.bool false)) = .lit (.bool (hasN fs s)) := by
  unfold seenD mapOf hasN
  rw [fold_atKey _ _ _ _ ⟨[], rfl⟩]
  have h2 : (DataW.map [] : DataW Unit).atKey (.string s.data.toList) (.lit (.bool false)) = .lit (.bool false) := rfl
  rw [h2, List.map_map]
  have e : ((fs.map ((fun s : ByteArray => s.data.toList) ∘ fun f : Fu => f.nm)).contains s.data.toList) = fs.any fun g => isS s g.nm := by
    induction fs with
    | nil => rfl
    | cons f fs ih =>
      rw [List.map_cons, List.contains_cons, ih, List.any_cons]
      congr 1
      unfold isS beqS
      rw [Lib.toList_data, Lib.toList_data, Bool.eq_iff_iff]
      simp only [beq_iff_eq, Function.comp_apply]
      exact ⟨fun h => h.symm, fun h => h.symm⟩
  rw [e]
  cases fs.any fun g => isS s g.nm <;> rfl
theorem seen_snoc (fs : List Fu) (i : Nat) (f : Fu) (h : fs[i]? = some f) : seenD (fs.take (i + 1)) = (seenD (fs.take i)).put (.string f.nm.data.toList) (.lit (.bool true)) := by
  obtain ⟨hi, rfl⟩ := List.getElem?_eq_some_iff.1 h
  unfold seenD
  rw [List.take_succ_eq_append_getElem hi, List.map_append, List.map_cons, List.map_nil, mapOf_snoc]
set_option maxHeartbeats 3200000 in
set_option maxRecDepth 100000 in
theorem sright_any (s : Sg) (A0 A1 : Option Addr) (c0 c1 : Nat) (w : World) (hok : okS s) (hS : SC w A0 s.sorts) (hF : FC w A1 s.funs) (hc0 : s.sorts.length ≤ c0) (hc1 : s.funs.length ≤ c1) (hLa : LaidA w) :
    Calls Tryz.prog 68 #[.agg #[.slice A0 s.sorts.length c0, .slice A1 s.funs.length c1]] w fun e w' => e = .returned (.int .i64 (signE s)) ∧ Below w.heap.size w w' := by
  have hmm := @run_makeMap Tryz.prog
  obtain ⟨e0, he0⟩ : ∃ e0, sortsE s.sorts = e0 := ⟨_, rfl⟩
  have hsor := fun W (hW : Below w.heap.size w W) => sorts_any s.sorts A0 c0 W hok.sorts hok.each (hS.below hW) hc0 (hLa.below hW)
  rw [he0] at hsor
  have HE := Aside0.mk he0
  have HSO := Aside0.mk hsor
  have HLA := Aside0.mk hLa
  have HR0 := Aside0.mk hS
  have HR1 := Aside0.mk hF
  have HOK := Aside0.mk hok
  obtain ⟨r, hr⟩ : ∃ r, signE s = r := ⟨_, rfl⟩
  rw [hr]
  have HR := Aside0.mk hr
  clear he0 hsor hLa hS hF hok hr
  go_enter Tryz.func68, Tryz.ntmps68
  go_wp2_with fail
  refine (HSO.out _ (below_alloc (Below.refl _ _) _)).mono ?_
  rintro e w1 ⟨rfl, hb⟩
  have hB1 : Below w.heap.size w w1 := below_step (below_alloc (Below.refl _ _) _) hb
  have x0 : w1.heap[w.heap.size]? = some (.cells #[.slice A0 s.sorts.length c0, .slice A1 s.funs.length c1] 25 (0, 0)) := blk_below (blk_new w _) hb
  have HB1 := Aside0.mk hB1
  have X0 := Aside0.mk x0
  clear hb hB1 x0
  obtain ⟨p00, p01, g00, g01⟩ := cells2 X0.out
  have HZ := Aside0.mk (blk_lt X0.out)
  have h := HR.out
  unfold signE at h
  rw [HE.out] at h
  by_cases ce : e0 = 0
  · subst ce
    rw [if_neg (by simp)] at h
    have HSL := Aside0.mk (sortsE_len HE.out)
    by_cases c256 : 256 < s.funs.length
    · rw [if_pos c256] at h
      have d256 : decide (256 < (s.funs.length : Int)) = true := decide_eq_true (by omega)
      have d256' : decide (256 < s.funs.length) = true := decide_eq_true c256
      subst h
      go_wp2
      go_ret
      exact ⟨rfl, HB1.out⟩
    · rw [if_neg c256] at h
      have d256 : decide (256 < (s.funs.length : Int)) = false := decide_eq_false (by omega)
      have d256' : decide (256 < s.funs.length) = false := decide_eq_false c256
      have HQ := Aside0.mk h
      have HN := Aside0.mk c256
      clear h c256
      have xm := blk_alloc X0.out (.map #[] 0)
      obtain ⟨s00, s01, h00, h01⟩ := cells2 xm
      have XM := Aside0.mk xm
      have HO := Aside0.mk (World.ownsMap_made (H := Unit) w1 Tryz.prog 9 (plainElem Tryz.prog 4))
      have HB2 := Aside0.mk (below_alloc HB1.out (.map #[] 0))
      clear xm X0 HB1 hmm
      have hmm := run_makeMap (P := Tryz.prog) 169 w1
      go_wp2
      go_loopw [22] (fun v w' => ∃ i : Nat, v = .int .i64 (i : Int) ∧ Aside0 (i ≤ fstI (funE s) s.funs.length) ∧ Aside0 (w'.ownsMap (H := Unit) Tryz.prog 9 (plainElem Tryz.prog 4) w1.heap.size i (seenD (s.funs.take i))) ∧ Aside0 (w'.heap[w.heap.size]? = some (.cells #[.slice A0 s.sorts.length c0, .slice A1 s.funs.length c1] 25 (0, 0))) ∧ Aside0 (Below w.heap.size w w')) (fun v _ => s.funs.length - (intOf v).toNat)
      case atStart => exact ⟨0, rfl, ⟨Nat.zero_le _⟩, HO, XM, HB2⟩
      case round =>
        clear p00 p01 g00 g01 s00 s01 h00 h01 XM HO HB2 hmm
        obtain ⟨i, rfl, HI, HO, X0, HB⟩ := hrel
        have hle := HI.out
        have hle2 := fstI_le (funE s) s.funs.length
        by_cases c5 : i < s.funs.length
        · have c5b0 : decide ((i : Int) < (s.funs.length : Int)) = true := decide_eq_true (by omega)
          have c5n : decide (i < s.funs.length) = true := decide_eq_true c5
          obtain ⟨f, hf⟩ : ∃ f, s.funs[i]? = some f := ⟨_, List.getElem?_eq_getElem c5⟩
          have hfo := HOK.out.fun_ f (List.mem_of_getElem? hf)
          obtain ⟨ad, A3, c3, e141, hx0, hx1, hx2, hl, hi1⟩ := HR1.out.at HB.out i f hf
          cases e141
          obtain ⟨e, he⟩ : ∃ e, checkE s f = e := ⟨_, rfl⟩
          have HE2 := Aside0.mk he
          have HF2 := Aside0.mk hf
          have HFO := Aside0.mk hfo
          have HI1 := Aside0.mk hi1
          have HL1 := Aside0.mk hl
          have HC5 := Aside0.mk c5
          have p141 : (0 ≤ (i : Int)) = True := eq_true (by omega)
          have q141 : ((i : Int) < (s.funs.length : Int)) = True := eq_true (by omega)
          clear he hf hfo hi1 hl hle hle2
          obtain ⟨p00, p01, g00, g01⟩ := cells2 X0.out
          have XA := blk_alloc X0.out (.cells #[.string f.nm, .slice A3 f.args.length c3, .string f.res] 103)
          obtain ⟨r00, r01, u00, u01⟩ := cells2 XA
          obtain ⟨z0, z1, z2, f0, f1, f2⟩ := cells3 (blk_new wr (.cells #[.string f.nm, .slice A3 f.args.length c3, .string f.res] 103))
          go_wp2_with fail
          have hw0 : Below w.heap.size w (wr.alloc (.cells #[.string f.nm, .slice A3 f.args.length c3, .string f.res] 103)) := below_alloc HB.out _
          have hno := (HO.out.alloc (.cells #[.string f.nm, .slice A3 f.args.length c3, .string f.res] 103))
          have hch := (check_any s f A0 (some ad) A3 _ _ _ _ (by have := HSL.out; omega) HFO.out (HR0.out.below hw0) (HR1.out.below hw0) (HI1.out.below hw0) hc0 hc1 HL1.out (HLA.out.below hw0))
          rw [HE2.out] at hch
          refine hch.mono ?_
          clear hch
          rintro e' w5 ⟨rfl, hb5⟩
          have n0 := hno.kept (grown_of_below hb5 none) (by simp)
          have n1 := blk_below XA hb5
          have n2 := below_step hw0 hb5
          have n3 := blk_below (blk_new wr (.cells #[.string f.nm, .slice A3 f.args.length c3, .string f.res] 103)) hb5
          have HO1 := Aside0.mk n0
          have X1 := Aside0.mk n1
          have HB1 := Aside0.mk n2
          have BK1 := Aside0.mk n3
          clear n0 n1 n2 n3 hb5 hw0 hno HO X0 HB XA r00 r01 u00 u01 z0 z1 z2 f0 f1 f2 hx0 hx1 hx2 p00 p01 g00 g01
          obtain ⟨r00, r01, u00, u01⟩ := cells2 X1.out
          obtain ⟨z0, z1, z2, f0, f1, f2⟩ := cells3 BK1.out
          have he2 := HE2.out
          have hnm := HFO.out.nm
          have hfun : funE s i = if e ≠ 0 then e else if hasN (s.funs.take i) f.nm = true then 4 else 0 := by
            unfold funE hasN
            rw [HF2.out]
            simp only
            rw [he2]
          have hend : funE s i ≠ 0 → r = funE s i := fun hne => by
            have hi2 : i = fstI (funE s) s.funs.length := by
              have := HI.out
              by_cases hlt : i < fstI (funE s) s.funs.length
              · exact absurd (fstI_not hlt) hne
              · omega
            rw [← HQ.out]
            unfold fstE
            rw [← hi2, if_pos HC5.out]
          have hgo : funE s i = 0 → i + 1 ≤ fstI (funE s) s.funs.length := fun h0 => by
            have := HI.out
            by_cases hlt : i < fstI (funE s) s.funs.length
            · omega
            · have hi2 : i = fstI (funE s) s.funs.length := by omega
              have := fstI_is (e := funE s) (n := s.funs.length) (by rw [← hi2]; exact HC5.out)
              rw [← hi2] at this
              exact absurd h0 this
          rw [hfun] at hend hgo
          by_cases ce : e = 0
          · subst ce
            rw [if_neg (by simp)] at hend hgo
            have hkey : keyOf Tryz.prog 9 (.string f.nm) = some (.string f.nm.data.toList) := keyOf_string_mk Tryz.underlying9 hnm
            have hl := lookup_bool HO1.out law Tryz.underlying169 Tryz.underlying4 (zeroB _) hkey _ (seen_at (s.funs.take i) f.nm)
            cases hs : hasN (s.funs.take i) f.nm with
            | true =>
              rw [hs] at hend hl
              have hr4 : r = 4 := hend (by simp)
              subst hr4
              clear hend hgo hs hkey hfun he2 hnm
              go_wp2
              go_ret
              exact ⟨rfl, HB1.out⟩
            | false =>
              rw [hs] at hgo hl
              have HG := Aside0.mk (hgo (by simp))
              clear hend hgo hs hfun he2 hnm
              go_wp2_with (first
                | (at_mapUpdate; refine wpList_mapUpdate_own _ rfl _ _ _ 169 rfl 9 4 law Tryz.underlying169 _ w1.heap.size i _ rfl HO1.out (by have := HC5.out; have := HN.out; unfold maxLen; omega) _ _ _ rfl rfl hkey _ [] (plainElem_bool Tryz.underlying4 true) ?_)
                | go_in)
              intro w6 hown1 hgrow1
              have R1 : w6.ownsMap (H := Unit) Tryz.prog 9 (plainElem Tryz.prog 4) w1.heap.size (i + 1) (seenD (s.funs.take (i + 1))) := by
                rw [seen_snoc _ _ _ HF2.out]; exact hown1
              have R2 := HB1.out.grown hgrow1 HB1.out.size (fun j hj => by cases hj; have := HZ.out; omega)
              have R3 := blk_grown X1.out hgrow1 (by have := HZ.out; simp; omega)
              have HO2 := Aside0.mk R1
              have HB2 := Aside0.mk R2
              have X2 := Aside0.mk R3
              clear hown1 hgrow1 R1 R2 R3 hkey hl HO1 HB1 X1 BK1 r00 r01 u00 u01 z0 z1 z2 f0 f1 f2
              have hwr : Go.RowKit.wrap64 ((i : Int) + 1) = ((i + 1 : Nat) : Int) := by
                have := HC5.out
                have := HN.out
                unfold Go.RowKit.wrap64
                omega
              go_wp2
              go_roundw
              case rel => exact ⟨i + 1, by go_num, HG, HO2, X2, HB2⟩
              case measure => exact meas_step HC5.out HN.out
          · rw [if_pos ce] at hend
            have hre : r = e := hend ce
            subst hre
            have d1 : (r == 0) = false := beq_eq_false_iff_ne.mpr ce
            have d2 : (r != 0) = true := bne_iff_ne.mpr ce
            clear hend hgo hfun
            go_wp2
            go_ret
            exact ⟨rfl, HB1.out⟩
        · have c5b0 : decide ((i : Int) < (s.funs.length : Int)) = false := decide_eq_false (by omega)
          have c5n : decide (i < s.funs.length) = false := decide_eq_false c5
          have hz : r = 0 := by
            rw [← HQ.out]
            unfold fstE
            rw [if_neg (by omega)]
          subst hz
          clear c5
          obtain ⟨p00, p01, g00, g01⟩ := cells2 X0.out
          go_wp2
          go_ret
          exact ⟨rfl, HB.out⟩
  · rw [if_pos ce] at h
    have c1 : (e0 == 0) = false := beq_eq_false_iff_ne.mpr ce
    have c2 : (e0 != 0) = true := bne_iff_ne.mpr ce
    subst h
    go_wp2
    go_ret
    exact ⟨rfl, HB1.out⟩
noncomputable def srightQ (cs : List C) : Option V := open Classical in if h : ∃ s : Sg, cs = [encS s] ∧ okS s then some (.c (.v (.int .i64 (signE h.choose)))) else none
theorem encF_inj : ∀ {l l' : List Fu}, l.map encF = l'.map encF → l = l'
  | [], [], _ => rfl
  | [], _ :: _, h => by simp at h
  | _ :: _, [], h => by simp at h
  | ⟨a, b, c⟩ :: l, ⟨a', b', c'⟩ :: l', h => by
    simp only [List.map_cons, List.cons.injEq, encF, C.agg.injEq, cS, C.v.injEq, Value.string.injEq, C.sl.injEq, and_true] at h
    obtain ⟨⟨h1, h2, h3⟩, h4⟩ := h
    rw [h1, h3, cS_inj (l := b) (l' := b') h2, encF_inj (l := l) (l' := l') h4]
theorem encS_inj {s s' : Sg} (h : encS s = encS s') : s = s' := by
  obtain ⟨a, b⟩ := s
  obtain ⟨a', b'⟩ := s'
  simp only [encS, C.agg.injEq, List.cons.injEq, C.sl.injEq, and_true] at h
  rw [cS_inj h.1, encF_inj h.2]
theorem srightQ_some {s : Sg} (h : okS s) : srightQ [encS s] = some (.c (.v (.int .i64 (signE s)))) := by
  have hx : ∃ s' : Sg, [encS s] = [encS s'] ∧ okS s' := ⟨s, rfl, h⟩
  unfold srightQ
  rw [dif_pos hx]
  have hc := hx.choose_spec.1
  generalize hx.choose = p at hc
  simp only [List.cons.injEq, and_true] at hc
  rw [encS_inj hc]
theorem srightQ_inv {cs : List C} {r : V} (h : srightQ cs = some r) : ∃ s, cs = [encS s] ∧ okS s ∧ r = .c (.v (.int .i64 (signE s))) := by
  unfold srightQ at h
  split at h
  · rename_i hx
    cases h
    exact ⟨_, hx.choose_spec.1, hx.choose_spec.2, rfl⟩
  · cases h
theorem srightOK {A : Ann} (hA : ∀ w, A.laid w → LaidA w) : ExtOK Tryz.prog A 68 srightQ := by
  refine ext_of fun cs r hr => ?_
  obtain ⟨s, rfl, hp, rfl⟩ := srightQ_inv hr
  refine ⟨_, rfl, fun w0 w F vals hl hb hF ha => ?_⟩
  simp only [RA] at ha
  obtain ⟨u, r, hv, h1, h2, rfl⟩ := ha
  simp only [encS, RC, RL] at h1
  obtain ⟨a0, s0, e0, ⟨A0, n0, c0, k0, m0, l0, q0⟩, _, a1, s1, e1, ⟨A1, n1, c1, k1, m1, l1, q1⟩, _, e2⟩ := h1
  simp only [List.cons.injEq, and_true] at k0 k1
  subst k0 k1
  simp only [List.length_map] at m0 m1
  subst m0 m1
  have ev : vals = #[.agg #[.slice A0 s.sorts.length c0, .slice A1 s.funs.length c1]] := by
    obtain ⟨cs, rfl⟩ := aggV_true (u := u) (by rw [encS_agg] at h2; exact h2.symm)
    simp only [Value.cells] at e0
    have ecs : cs = #[.slice A0 s.sorts.length c0, .slice A1 s.funs.length c1] := by
      have := congrArg List.toArray e0
      simpa [e1, e2] using this
    have := congrArg List.toArray hv
    simpa [ecs] using this
  subst ev
  have hS : SC w A0 s.sorts := fun hne => by
    obtain ⟨b, o, s', e, k⟩ := q0 (by simpa using hne)
    exact ⟨b, o, s', e, RE.mono hF.le k⟩
  have hFu : FC w A1 s.funs := fun hne => by
    obtain ⟨b, o, s', e, k⟩ := q1 (by simpa using hne)
    exact ⟨b, o, s', e, RE.mono hF.le k⟩
  refine (sright_any s A0 A1 c0 c1 w hp hS hFu l0 l1 ((hA _ hl).below hb)).mono ?_
  rintro e w' ⟨rfl, hb'⟩
  exact ⟨_, rfl, hb', RC_v rfl rfl, rfl⟩
end
end Go.Eng
