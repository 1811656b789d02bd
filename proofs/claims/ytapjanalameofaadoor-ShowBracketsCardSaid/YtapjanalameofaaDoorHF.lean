-- own work: an evaluator of the program's code, and what it answers
import Derived.Test.YtapjanalameofaaDoorHE
/- A claim's text: package show. -/
set_option maxRecDepth 100000
set_option linter.unusedVariables false
set_option linter.unusedSimpArgs false
namespace Go.Eng
open Go Go.Proofs
def eqB : ByteArray := ⟨#[32, 61, 32]⟩
def leB : ByteArray := ⟨#[32, 60, 61, 32]⟩
def notB : ByteArray := ⟨#[126]⟩
def bangB : ByteArray := ⟨#[33]⟩
def askB : ByteArray := ⟨#[63]⟩
def dotB : ByteArray := ⟨#[46, 32]⟩
theorem e_eq : ({ data := #[32, 61, 32] } : ByteArray) = eqB := rfl
theorem e_le : ({ data := #[32, 60, 61, 32] } : ByteArray) = leB := rfl
theorem e_not : ({ data := #[126] } : ByteArray) = notB := rfl
theorem e_bang : ({ data := #[33] } : ByteArray) = bangB := rfl
theorem e_ask : ({ data := #[63] } : ByteArray) = askB := rfl
theorem e_dot : ({ data := #[46, 32] } : ByteArray) = dotB := rfl
theorem e_colon : ({ data := #[58, 32] } : ByteArray) = colonB := rfl
theorem z_eq : eqB.size = 3 := rfl
theorem z_le : leB.size = 4 := rfl
theorem z_not : notB.size = 1 := rfl
theorem z_bang : bangB.size = 1 := rfl
theorem z_ask : askB.size = 1 := rfl
theorem z_dot : dotB.size = 2 := rfl
theorem z_colon : colonB.size = 2 := rfl
attribute [go_sem] e_eq e_le e_not e_bang e_ask e_dot e_colon
def c0 : Cl := .mk 1 noS noS [] []
/-- a claim whose text is asked for -/
structure ClaimOK (c : Cl) : Prop where
  ok : okC c
  right : firstC c = 0
  named : namedB c = true
  small : sizeC c ≤ 10000
theorem ClaimOK.sub {c x : Cl} (h : ClaimOK c) (hx : x ∈ c.ss) : ClaimOK x := by
  obtain ⟨h1, h2, h3, h4⟩ := h
  rw [namedB_eq, Bool.and_eq_true, Bool.and_eq_true, List.all_eq_true, List.all_eq_true] at h3
  have := sizeCs_mem hx
  rw [sizeC_eqn] at h4
  exact ⟨h1.arg.2 x hx, (soundC_of h2).ss x hx, h3.1.2 x hx, by omega⟩
theorem ClaimOK.term {c : Cl} {x : Tm} (h : ClaimOK c) (hx : x ∈ c.ts) : TermOK x := by
  obtain ⟨h1, h2, h3, h4⟩ := h
  rw [namedB_eq, Bool.and_eq_true, Bool.and_eq_true, List.all_eq_true, List.all_eq_true] at h3
  have := sizeTs_mem hx
  rw [sizeC_eqn] at h4
  exact ⟨h1.arg.1 x hx, firstT_right ((soundC_of h2).ts x hx), h3.1.1 x hx, by omega⟩
theorem ClaimOK.nm {c : Cl} (h : ClaimOK c) : c.nm.size ≤ 100 ∧ c.so.size ≤ 100 := by
  have h3 := h.named
  rw [namedB_eq, Bool.and_eq_true, Bool.and_eq_true, Bool.and_eq_true, decide_eq_true_eq, decide_eq_true_eq] at h3
  exact h3.2
theorem ClaimOK.len {c : Cl} (h : ClaimOK c) {free ns : List ByteArray} (hn : ∀ s ∈ ns, s.size ≤ 100) (least : Int) (last : Bool) : (txtC free ns least last c).size ≤ 4000000 := by
  have := txtC_size (free := free) c ns least last hn h.named
  have := h.small
  omega
theorem ClaimOK.sum {c : Cl} (h : ClaimOK c) {ns : List ByteArray} (hn : ∀ s ∈ ns, s.size ≤ 100) : sumX (c.ts.map (txtT ns)) ≤ 20000000 := by
  have h3 := h.named
  have h4 := h.small
  rw [namedB_eq, Bool.and_eq_true, Bool.and_eq_true] at h3
  rw [sizeC_eqn] at h4
  have := txtTs_size hn c.ts (by rw [shortTs_all]; exact h3.1.1)
  rw [txtTs_map] at this
  omega
theorem txtC_eq (free ns : List ByteArray) (least : Int) (last : Bool) (c : Cl) : txtC free ns least last c =
    if c.op = 1 then trueB
    else if c.op = 2 then falseB
    else if c.op = 4 then ((c.ts.map (txtT ns)).getD 0 noS ++ eqB) ++ (c.ts.map (txtT ns)).getD 1 noS
    else if c.op = 5 then ((c.ts.map (txtT ns)).getD 0 noS ++ leB) ++ (c.ts.map (txtT ns)).getD 1 noS
    else if c.op = 6 then notB ++ txt0 free ns 5 last c.ss
    else if bindB c.op = true then
      brX (!last) (((((markB c.op ++ calledB c.nm (free ++ ns)) ++ colonB) ++ c.so) ++ dotB) ++ txt0 free (ns ++ [calledB c.nm (free ++ ns)]) 1 true c.ss)
    else if tightB c.op = 0 then applyX c.nm (c.ts.map (txtT ns))
    else brX (decide (tightB c.op < least)) ((txt0 free ns (tightB c.op + 1) false c.ss ++ signB c.op) ++ txt1 free ns (tightB c.op) (last || decide (tightB c.op < least)) c.ss) := by
  cases c
  rw [txtC, txtTs_map]
  rfl
theorem brX_t (s : ByteArray) : brX true s = (lparB ++ s) ++ rparB := rfl
theorem brX_f (s : ByteArray) : brX false s = s := rfl
set_option maxHeartbeats 1000000 in
theorem termOf_ev (c : Cl) (hc : okC c) (i : Nat) (hi : i ≤ 1000) (ro : Nat) (m : Mem) (hro : ro ≤ m.length) : evL Tryd.prog An ro 62 [.c (encC c), .c (.v (.int .i64 i))] m = some (.c (encT (c.ts.getD i t0)), m) := by
  refine evL_by (n := 16) (by kernel_rfl) rfl fn62 rfl rfl rfl rfl ?_
  have hro1 : ro ≤ m.length + 1 := by omega
  by_cases h : i < c.ts.length
  · obtain ⟨x, hx⟩ : ∃ x, c.ts[i]? = some x := ⟨_, List.getElem?_eq_getElem h⟩
    have c1 : decide ((i : Int) < (c.ts.length : Int)) = true := dec_t (by omega)
    have c2 : c.ts.getD i t0 = x := by rw [List.getD_eq_getElem?_getD, hx]; rfl
    simp only [go_sem, ↓reduceIte, c1, c2, hx, hro, hro1]
  · have c1 : decide ((i : Int) < (c.ts.length : Int)) = false := dec_f (by omega)
    have c2 : c.ts.getD i t0 = t0 := by rw [List.getD_eq_getElem?_getD, List.getElem?_eq_none (by omega)]; rfl
    rw [c2, t0, encT_mk]
    simp only [go_sem, ↓reduceIte, c1, hro, hro1]
    rfl
set_option maxHeartbeats 1000000 in
theorem sub_ev (c : Cl) (hc : okC c) (i : Nat) (hi : i ≤ 1000) (ro : Nat) (m : Mem) (hro : ro ≤ m.length) : evL Tryd.prog An ro 63 [.c (encC c), .c (.v (.int .i64 i))] m = some (.c (encC (c.ss.getD i c0)), m) := by
  refine evL_by (n := 16) (by kernel_rfl) rfl fn63 rfl rfl rfl rfl ?_
  have hro1 : ro ≤ m.length + 1 := by omega
  by_cases h : i < c.ss.length
  · obtain ⟨x, hx⟩ : ∃ x, c.ss[i]? = some x := ⟨_, List.getElem?_eq_getElem h⟩
    have c1 : decide ((i : Int) < (c.ss.length : Int)) = true := dec_t (by omega)
    have c2 : c.ss.getD i c0 = x := by rw [List.getD_eq_getElem?_getD, hx]; rfl
    simp only [go_sem, ↓reduceIte, c1, c2, hx, hro, hro1]
  · have c1 : decide ((i : Int) < (c.ss.length : Int)) = false := dec_f (by omega)
    have c2 : c.ss.getD i c0 = c0 := by rw [List.getD_eq_getElem?_getD, List.getElem?_eq_none (by omega)]; rfl
    rw [c2, c0, encC_mk]
    simp only [go_sem, ↓reduceIte, c1, hro, hro1]
    rfl
theorem zero3 : zeroC Tryd.prog 3 = some (.int .i64 0) := by kernel_rfl
theorem zero9 : zeroC Tryd.prog 9 = some (.string ByteArray.empty) := by kernel_rfl
abbrev keysS : List Value := [.int .i64 7, .int .i64 8, .int .i64 9, .int .i64 10]
abbrev tightsS : List C := [cI 4, cI 3, cI 2, cI 1]
abbrev signsS : List C := [cS ⟨#[32, 38, 32]⟩, cS ⟨#[32, 124, 32]⟩, cS ⟨#[32, 45, 62, 32]⟩, cS ⟨#[32, 60, 45, 62, 32]⟩]
theorem find_tight {op : Int} (h : 7 ≤ op ∧ op ≤ 10) : findC (.int .i64) (.int .i64 op) keysS tightsS = some (some (cI (tightB op))) := by
  have : op = 7 ∨ op = 8 ∨ op = 9 ∨ op = 10 := by omega
  rcases this with rfl | rfl | rfl | rfl <;> rfl
theorem find_sign {op : Int} (h : 7 ≤ op ∧ op ≤ 10) : findC (.int .i64) (.int .i64 op) keysS signsS = some (some (cS (signB op))) := by
  have : op = 7 ∨ op = 8 ∨ op = 9 ∨ op = 10 := by omega
  rcases this with rfl | rfl | rfl | rfl <;> rfl
theorem find_three : findC (.int .i64) (.int .i64 3) keysS tightsS = some none := by rfl
end Go.Eng
/- A claim's text: package show, the walk. -/
set_option maxRecDepth 100000
set_option linter.unusedVariables false
set_option linter.unusedSimpArgs false
namespace Go.Eng
open Go Go.Proofs
theorem takeS (l : List ByteArray) : List.take l.length (l.map cS) = l.map cS := List.take_of_length_le (by simp)
set_option maxHeartbeats 16000000 in
theorem show_ev (free : List ByteArray) (hfree : free.length ≤ 1000000) (os : Option Nat) (D B : Nat) (c : Cl) (hc : ClaimOK c) (ns : List ByteArray) (hns : ns.length + sizeC c ≤ 900000) (hn : ∀ s ∈ ns, s.size ≤ 100)
    (least : Int) (hle : 1 ≤ least ∧ least ≤ 5) (last : Bool) (ro : Nat) (m : Mem) (hro : ro ≤ m.length) (hD : D < m.length) (hB : look m D B = some [.tip os (free.map cS)]) :
    evL Tryd.prog An ro 37 [.p D B 0, .c (encC c), .c (.sl (ns.map cS)), .c (.v (.int .i64 least)), .c (.v (.bool last))] m = some (.c (.v (.string (txtC free ns least last c))), m) := by
  induction hd : SizeOf.sizeOf c using Nat.strongRecOn generalizing c ns least last ro m with
  | _ d ih =>
  have S := soundC_of hc.right
  have hro1 : ro ≤ m.length + 1 := by omega
  have hzc := sizeC_eqn c
  have NO : NamesOK ns := ⟨by omega, hn⟩
  have e1 : (D = m.length) = False := by simp; omega
  have l1 : ∀ fr, look (fr :: m) D B = some [.tip os (free.map cS)] := fun fr => (look_low hD).trans hB
  have hlt : decide (D < m.length + 1) = true := dec_t (by omega)
  have hD1 : ∀ fr : Fr, D < (fr :: m).length := fun fr => by simp only [List.length_cons]; omega
  have hsub := fun (x : Cl) (hx : x ∈ c.ss) (ns' : List ByteArray) (hl' : ns'.length ≤ ns.length + 1) (hn' : ∀ s ∈ ns', s.size ≤ 100) (le' : Int) (hle' : 1 ≤ le' ∧ le' ≤ 5) (la' : Bool) (m' : Mem) (hD' : D < m'.length) (hB' : look m' D B = some [.tip os (free.map cS)]) (fr : Fr) (ro : Nat) (hro : ro ≤ m'.length + 1) =>
    ih _ (by have := Cl.lt hx; omega) x (hc.sub hx) ns' (by have := sizeCs_mem hx; omega) hn' le' hle' la' ro (fr :: m') (by simpa using hro) (by simp only [List.length_cons]; omega) ((look_low hD').trans hB') rfl
  have hlen := fun (x : Cl) (hx : x ∈ c.ss) (ns' : List ByteArray) (hn' : ∀ s ∈ ns', s.size ≤ 100) le' la' => (hc.sub hx).len (free := free) hn' le' la'
  have htx := fun (x : Tm) (hx : x ∈ c.ts) ro m hro => stext_ev ns NO x (hc.term hx) ro m hro
  have htl := fun (x : Tm) (hx : x ∈ c.ts) => (hc.term hx).len NO
  have h0 := fun ro m hro => termOf_ev c hc.ok 0 (by omega) ro m hro
  have h1 := fun ro m hro => termOf_ev c hc.ok 1 (by omega) ro m hro
  have s0 := fun ro m hro => sub_ev c hc.ok 0 (by omega) ro m hro
  have s1 := fun ro m hro => sub_ev c hc.ok 1 (by omega) ro m hro
  have e0 : ((0 : Nat) : Int) = 0 := rfl
  have e1' : ((1 : Nat) : Int) = 1 := rfl
  simp only [e0] at h0 s0
  simp only [e1'] at h1 s1
  have hnmso := hc.nm
  have z1 := z_eq
  have z2 := z_le
  have z3 := z_not
  have z4 := z_lpar
  have z5 := z_rpar
  have z6 := z_colon
  have z7 := z_dot
  have hT := txtC_eq free ns
  have hop : c.op = 1 ∨ c.op = 2 ∨ c.op = 3 ∨ c.op = 4 ∨ c.op = 5 ∨ c.op = 6 ∨ (7 ≤ c.op ∧ c.op ≤ 10) ∨ (c.op = 11 ∨ c.op = 12) := by have := S.op; omega
  rcases hop with e | e | e | e | e | e | e | e
  · have hb : ∀ k : Int, (c.op == k) = ((1 : Int) == k) := fun k => by rw [e]
    have hC : txtC free ns least last c = trueB := by rw [hT, e]; rfl
    rw [hC]
    refine evL_by (n := 139) (by kernel_rfl) rfl fn37 rfl rfl rfl rfl ?_
    clear hT hC ih hsub hlen
    simp only [go_sem, ↓reduceIte, hb, Int.reduceBEq]
    rfl
  · have hb : ∀ k : Int, (c.op == k) = ((2 : Int) == k) := fun k => by rw [e]
    have hC : txtC free ns least last c = falseB := by rw [hT, e]; rfl
    rw [hC]
    refine evL_by (n := 139) (by kernel_rfl) rfl fn37 rfl rfl rfl rfl ?_
    clear hT hC ih hsub hlen
    simp only [go_sem, ↓reduceIte, hb, Int.reduceBEq]
    rfl
  · have hb : ∀ k : Int, (c.op == k) = ((3 : Int) == k) := fun k => by rw [e]
    have hsum := hc.sum hn
    have hap := fun ro m hro => sapply_of c.nm hnmso.1 c.ts (ns.map cS) (txtT ns) (by have := S.few; omega) (by omega) htx ro m hro
    have hC : txtC free ns least last c = if c.ts.length = 0 then c.nm else ((c.nm ++ lparB) ++ joinX (c.ts.map (txtT ns))) ++ rparB := by
      rw [hT, e]
      simp [bindB, tightB, applyX, lparB, rparB]
    rw [hC]
    have hf : findC (.int .i64) (.int .i64 c.op) keysS tightsS = some none := by rw [e]; exact find_three
    refine evL_by (n := 139) (by kernel_rfl) rfl fn37 rfl rfl rfl rfl ?_
    clear hT hC ih hsub hlen
    generalize (if c.ts.length = 0 then c.nm else ((c.nm ++ lparB) ++ joinX (c.ts.map (txtT ns))) ++ rparB) = out at hap ⊢
    simp only [go_sem, ↓reduceIte, hb, hf, tightC, zero3, hap, hro, hro1, Int.reduceBEq]
  · have hb : ∀ k : Int, (c.op == k) = ((4 : Int) == k) := fun k => by rw [e]
    obtain ⟨a, b, hl⟩ : ∃ a b, c.ts = [a, b] := two_list (S.two (.inl e))
    have ma : a ∈ c.ts := by rw [hl]; simp
    have mb : b ∈ c.ts := by rw [hl]; simp
    have la := htl a ma
    have lb := htl b mb
    have ta := htx a ma
    have tb := htx b mb
    have g0 : c.ts.getD 0 t0 = a := by rw [hl]; rfl
    have g1 : c.ts.getD 1 t0 = b := by rw [hl]; rfl
    rw [g0] at h0
    rw [g1] at h1
    have hC : txtC free ns least last c = (txtT ns a ++ eqB) ++ txtT ns b := by rw [hT, e, hl]; rfl
    rw [hC]
    have c1 : (txtT ns a).size + eqB.size ≤ 9223372036854775807 := by omega
    have c2 : (txtT ns a).size + eqB.size + (txtT ns b).size ≤ 9223372036854775807 := by omega
    refine evL_by (n := 139) (by kernel_rfl) rfl fn37 rfl rfl rfl rfl ?_
    clear hT hC ih hsub hlen
    simp only [go_sem, ↓reduceIte, hb, h0, h1, ta, tb, c1, c2, hro, hro1, Int.reduceBEq]
  · have hb : ∀ k : Int, (c.op == k) = ((5 : Int) == k) := fun k => by rw [e]
    obtain ⟨a, b, hl⟩ : ∃ a b, c.ts = [a, b] := two_list (S.two (.inr e))
    have ma : a ∈ c.ts := by rw [hl]; simp
    have mb : b ∈ c.ts := by rw [hl]; simp
    have la := htl a ma
    have lb := htl b mb
    have ta := htx a ma
    have tb := htx b mb
    have g0 : c.ts.getD 0 t0 = a := by rw [hl]; rfl
    have g1 : c.ts.getD 1 t0 = b := by rw [hl]; rfl
    rw [g0] at h0
    rw [g1] at h1
    have hC : txtC free ns least last c = (txtT ns a ++ leB) ++ txtT ns b := by rw [hT, e, hl]; rfl
    rw [hC]
    have c1 : (txtT ns a).size + leB.size ≤ 9223372036854775807 := by omega
    have c2 : (txtT ns a).size + leB.size + (txtT ns b).size ≤ 9223372036854775807 := by omega
    refine evL_by (n := 139) (by kernel_rfl) rfl fn37 rfl rfl rfl rfl ?_
    clear hT hC ih hsub hlen
    simp only [go_sem, ↓reduceIte, hb, h0, h1, ta, tb, c1, c2, hro, hro1, Int.reduceBEq]
  · have hb : ∀ k : Int, (c.op == k) = ((6 : Int) == k) := fun k => by rw [e]
    obtain ⟨a, hl⟩ : ∃ a, c.ss = [a] := List.length_eq_one_iff.1 (S.one (.inl e))
    have ma : a ∈ c.ss := by rw [hl]; simp
    have g0 : c.ss.getD 0 c0 = a := by rw [hl]; rfl
    rw [g0] at s0
    have la := hlen a ma ns hn 5 last
    have sa := fun fr ro hro => hsub a ma ns (by omega) hn 5 (by omega) last m hD hB fr ro hro
    have hC : txtC free ns least last c = notB ++ txtC free ns 5 last a := by
      rw [hT, e, hl]
      simp [txt0]
    rw [hC]
    have c1 : notB.size + (txtC free ns 5 last a).size ≤ 9223372036854775807 := by omega
    refine evL_by (n := 139) (by kernel_rfl) rfl fn37 rfl rfl rfl rfl ?_
    clear hT hC ih hsub hlen
    generalize txtC free ns 5 last a = xa at sa c1 ⊢
    simp only [go_sem, ↓reduceIte, hb, s0, sa, c1, hro, hro1, Int.reduceBEq]
  · have b1 : (c.op == 1) = false := beq_eq_false_iff_ne.2 (by omega)
    have b2 : (c.op == 2) = false := beq_eq_false_iff_ne.2 (by omega)
    have b4 : (c.op == 4) = false := beq_eq_false_iff_ne.2 (by omega)
    have b5 : (c.op == 5) = false := beq_eq_false_iff_ne.2 (by omega)
    have b6 : (c.op == 6) = false := beq_eq_false_iff_ne.2 (by omega)
    have b11 : (c.op == 11) = false := beq_eq_false_iff_ne.2 (by omega)
    have b12 : (c.op == 12) = false := beq_eq_false_iff_ne.2 (by omega)
    have bB : bindB c.op = false := by unfold bindB; rw [b11, b12]; rfl
    obtain ⟨a, b, hl⟩ : ∃ a b, c.ss = [a, b] := two_list (S.both e)
    have ma : a ∈ c.ss := by rw [hl]; simp
    have mb : b ∈ c.ss := by rw [hl]; simp
    have g0 : c.ss.getD 0 c0 = a := by rw [hl]; rfl
    have g1 : c.ss.getD 1 c0 = b := by rw [hl]; rfl
    rw [g0] at s0
    rw [g1] at s1
    have hfT := find_tight e
    have hfS := find_sign e
    simp only [keysS, tightsS, cI] at hfT
    simp only [keysS, signsS, cS] at hfS
    have ht4 : 1 ≤ tightB c.op ∧ tightB c.op ≤ 4 := by
      have : c.op = 7 ∨ c.op = 8 ∨ c.op = 9 ∨ c.op = 10 := by omega
      rcases this with k | k | k | k <;> rw [k] <;> decide
    have hs5 : (signB c.op).size ≤ 5 := by
      have : c.op = 7 ∨ c.op = 8 ∨ c.op = 9 ∨ c.op = 10 := by omega
      rcases this with k | k | k | k <;> rw [k] <;> decide
    have hX : ∀ least last, txtC free ns least last c = brX (decide (tightB c.op < least)) ((txtC free ns (tightB c.op + 1) false a ++ signB c.op) ++ txtC free ns (tightB c.op) (last || decide (tightB c.op < least)) b) := fun least last => by
      rw [hT, if_neg (by omega), if_neg (by omega), if_neg (by omega), if_neg (by omega), if_neg (by omega), if_neg (by rw [bB]; decide), if_neg (by omega), hl]
      simp only [txt0, txt1]
    have la := hlen a ma ns hn (tightB c.op + 1) false
    have lb := fun la' => hlen b mb ns hn (tightB c.op) la'
    have hw : IntKind.i64.wrap (tightB c.op + 1) = tightB c.op + 1 := wrap64 (by omega) (by omega)
    have sa := hsub a ma ns (by omega) hn (tightB c.op + 1) (by omega) false
    have sb := hsub b mb ns (by omega) hn (tightB c.op) (by omega)
    clear hT hlen hsub ih
    generalize tightB c.op = T at *
    generalize signB c.op = sg at *
    have inner : ∀ (least : Int) (last : Bool) (ro : Nat) (m' : Mem), ro ≤ m'.length → D < m'.length → look m' D B = some [.tip os (free.map cS)] → ¬ T < least →
        evL Tryd.prog An ro 37 [.p D B 0, .c (encC c), .c (.sl (ns.map cS)), .c (.v (.int .i64 least)), .c (.v (.bool last))] m' = some (.c (.v (.string ((txtC free ns (T + 1) false a ++ sg) ++ txtC free ns T last b))), m') := by
      intro least last ro m' hro' hD' hB' hT'
      have hro1' : ro ≤ m'.length + 1 := by omega
      have d1 : decide (T < least) = false := dec_f hT'
      have lb' := lb last
      have sa' := sa m' hD' hB'
      have sb' := sb last m' hD' hB'
      have c1 : (txtC free ns (T + 1) false a).size + sg.size ≤ 9223372036854775807 := by omega
      have c2 : (txtC free ns (T + 1) false a).size + sg.size + (txtC free ns T last b).size ≤ 9223372036854775807 := by omega
      refine evL_by (n := 139) (by kernel_rfl) rfl fn37 rfl rfl rfl rfl ?_
      clear hX sa sb
      generalize txtC free ns (T + 1) false a = xa at sa' c1 c2 ⊢
      generalize txtC free ns T last b = xb at sb' c2 ⊢
      simp only [go_sem, ↓reduceIte, b1, b2, b4, b5, b6, b11, b12, hfT, hfS, cI, cS, tightC, signsC, zero3, zero9, s0, s1, sa', sb', d1, hw, c1, c2, hro', hro1']
    rw [hX]
    by_cases hlt2 : T < least
    · have d1 : decide (T < least) = true := dec_t hlt2
      have hin := fun (fr : Fr) (ro : Nat) (hro : ro ≤ m.length + 1) => inner 1 true ro (fr :: m) (by simpa using hro) (hD1 fr) (l1 fr) (by omega)
      have lb' := lb true
      rw [d1, Bool.or_true, brX_t]
      have c0 : ((txtC free ns (T + 1) false a ++ sg) ++ txtC free ns T true b).size ≤ 1000000000 := by rw [cat_size, cat_size]; omega
      refine evL_by (n := 139) (by kernel_rfl) rfl fn37 rfl rfl rfl rfl ?_
      clear hX sa sb inner
      generalize (txtC free ns (T + 1) false a ++ sg) ++ txtC free ns T true b = out at hin c0 ⊢
      have c1 : lparB.size + out.size ≤ 9223372036854775807 := by omega
      have c2 : lparB.size + out.size + rparB.size ≤ 9223372036854775807 := by omega
      simp only [go_sem, ↓reduceIte, b1, b2, b4, b5, b6, b11, b12, hfT, cI, tightC, zero3, hin, d1, c1, c2, hro, hro1]
    · rw [dec_f hlt2, Bool.or_false, brX_f]
      exact inner least last ro m hro hD hB hlt2
  · have b1 : (c.op == 1) = false := beq_eq_false_iff_ne.2 (by omega)
    have b2 : (c.op == 2) = false := beq_eq_false_iff_ne.2 (by omega)
    have b4 : (c.op == 4) = false := beq_eq_false_iff_ne.2 (by omega)
    have b5 : (c.op == 5) = false := beq_eq_false_iff_ne.2 (by omega)
    have b6 : (c.op == 6) = false := beq_eq_false_iff_ne.2 (by omega)
    have bB : bindB c.op = true := by unfold bindB; rcases e with e | e <;> rw [e] <;> rfl
    obtain ⟨a, hl⟩ : ∃ a, c.ss = [a] := List.length_eq_one_iff.1 (S.one (.inr e))
    have ma : a ∈ c.ss := by rw [hl]; simp
    have g0 : c.ss.getD 0 c0 = a := by rw [hl]; rfl
    rw [g0] at s0
    have hX : ∀ least last, txtC free ns least last c = brX (!last) (((((markB c.op ++ calledB c.nm (free ++ ns)) ++ colonB) ++ c.so) ++ dotB) ++ txtC free (ns ++ [calledB c.nm (free ++ ns)]) 1 true a) := fun least last => by
      rw [hT, if_neg (by omega), if_neg (by omega), if_neg (by omega), if_neg (by omega), if_neg (by omega), if_pos bB, hl]
      simp only [txt0]
    have hcal := calledB_size c.nm (free ++ ns)
    have hcl := fun (m' : Mem) (hD' : D < m'.length) (hB' : look m' D B = some [.tip os (free.map cS)]) (fr : Fr) (ro : Nat) => scalled_ev c.nm hnmso.1 free ns (by omega) os D B (fr :: m') ro (by simp only [List.length_cons]; omega) ((look_low hD').trans hB')
    have hn2 : ∀ s ∈ ns ++ [calledB c.nm (free ++ ns)], s.size ≤ 100 := fun s hs => by
      rcases List.mem_append.1 hs with hs | hs
      · exact hn s hs
      · obtain rfl := List.mem_singleton.1 hs; omega
    have la := hlen a ma _ hn2 1 true
    have sa := hsub a ma _ (by simp) hn2 1 (by omega) true
    have hmk : (markB c.op).size = 1 := by unfold markB; split <;> rfl
    clear hT hlen hsub ih
    generalize calledB c.nm (free ++ ns) = cal at *
    generalize txtC free (ns ++ [cal]) 1 true a = xa at *
    have c5 : (ns.length + 1) * 16 ≤ 140737488355328 := by omega
    have c6 : ns.length + 1 ≤ 9223372036854775807 := by omega
    have inner : ∀ (least : Int) (ro : Nat) (m' : Mem), ro ≤ m'.length → D < m'.length → look m' D B = some [.tip os (free.map cS)] →
        evL Tryd.prog An ro 37 [.p D B 0, .c (encC c), .c (.sl (ns.map cS)), .c (.v (.int .i64 least)), .c (.v (.bool true))] m' = some (.c (.v (.string (((((markB c.op ++ cal) ++ colonB) ++ c.so) ++ dotB) ++ xa))), m') := by
      intro least ro m' hro' hD' hB'
      have hro1' : ro ≤ m'.length + 1 := by omega
      have sa' := sa m' hD' hB'
      have hcl' := hcl m' hD' hB'
      refine evL_by (n := 139) (by kernel_rfl) rfl fn37 rfl rfl rfl rfl ?_
      clear hX sa hcl
      rcases e with e | e
      · have b11 : (c.op == 11) = true := by rw [e]; rfl
        have b12 : (c.op == 12) = false := by rw [e]; rfl
        have hm : markB c.op = bangB := by rw [e]; rfl
        rw [hm] at hmk ⊢
        have c1 : bangB.size + cal.size ≤ 9223372036854775807 := by omega
        have c2 : bangB.size + cal.size + colonB.size ≤ 9223372036854775807 := by omega
        have c3 : bangB.size + cal.size + colonB.size + c.so.size ≤ 9223372036854775807 := by omega
        have c4 : bangB.size + cal.size + colonB.size + c.so.size + dotB.size ≤ 9223372036854775807 := by omega
        have c7 : bangB.size + cal.size + colonB.size + c.so.size + dotB.size + xa.size ≤ 9223372036854775807 := by omega
        simp only [go_sem, ↓reduceIte, b1, b2, b4, b5, b6, b11, b12, s0, sa', hcl', snoc_S, takeS, c1, c2, c3, c4, c5, c6, c7, hro', hro1']
      · have b11 : (c.op == 11) = false := by rw [e]; rfl
        have b12 : (c.op == 12) = true := by rw [e]; rfl
        have hm : markB c.op = askB := by rw [e]; rfl
        rw [hm] at hmk ⊢
        have c1 : askB.size + cal.size ≤ 9223372036854775807 := by omega
        have c2 : askB.size + cal.size + colonB.size ≤ 9223372036854775807 := by omega
        have c3 : askB.size + cal.size + colonB.size + c.so.size ≤ 9223372036854775807 := by omega
        have c4 : askB.size + cal.size + colonB.size + c.so.size + dotB.size ≤ 9223372036854775807 := by omega
        have c7 : askB.size + cal.size + colonB.size + c.so.size + dotB.size + xa.size ≤ 9223372036854775807 := by omega
        simp only [go_sem, ↓reduceIte, b1, b2, b4, b5, b6, b11, b12, s0, sa', hcl', snoc_S, takeS, c1, c2, c3, c4, c5, c6, c7, hro', hro1']
    rw [hX]
    cases last with
    | true => exact inner least ro m hro hD hB
    | false =>
      have hin := fun (fr : Fr) (ro : Nat) (hro : ro ≤ m.length + 1) => inner 1 ro (fr :: m) (by simpa using hro) (hD1 fr) (l1 fr)
      rw [Bool.not_false, brX_t]
      have c0 : (((((markB c.op ++ cal) ++ colonB) ++ c.so) ++ dotB) ++ xa).size ≤ 1000000000 := by rw [cat_size, cat_size, cat_size, cat_size, cat_size]; omega
      refine evL_by (n := 139) (by kernel_rfl) rfl fn37 rfl rfl rfl rfl ?_
      clear hX sa inner hcl
      generalize ((((markB c.op ++ cal) ++ colonB) ++ c.so) ++ dotB) ++ xa = out at hin c0 ⊢
      have c1 : lparB.size + out.size ≤ 9223372036854775807 := by omega
      have c2 : lparB.size + out.size + rparB.size ≤ 9223372036854775807 := by omega
      rcases e with e | e
      · have b11 : (c.op == 11) = true := by rw [e]; rfl
        simp only [go_sem, ↓reduceIte, b1, b2, b4, b5, b6, b11, hin, c1, c2, hro, hro1]
      · have b11 : (c.op == 11) = false := by rw [e]; rfl
        have b12 : (c.op == 12) = true := by rw [e]; rfl
        simp only [go_sem, ↓reduceIte, b1, b2, b4, b5, b6, b11, b12, hin, c1, c2, hro, hro1]
end Go.Eng
/- A claim's text: the reference. -/
set_option maxRecDepth 100000
set_option linter.unusedVariables false
set_option linter.unusedSimpArgs false
namespace Go.Eng
open Go Go.Proofs
theorem firstTs_all : ∀ {l : List Tm}, (∀ x ∈ l, firstT x = 0) → firstTs l = 0
  | [], _ => by simp [firstTs]
  | x :: r, h => by rw [firstTs_cons, if_neg (by simp [h x List.mem_cons_self])]; exact firstTs_all fun y hy => h y (List.mem_cons_of_mem _ hy)
/-- a predicate's text is a function's -/
theorem predOK {c : Cl} (h : ClaimOK c) : TermOK (.mk 3 c.nm 0 c.ts) := by
  have S := soundC_of h.right
  have hf := S.few
  obtain ⟨hn1, hn2⟩ := h.nm
  refine ⟨.mk _ (by rw [maxLen_eq]; show c.ts.length ≤ _; omega) (by show (Lit.int .i64 3).wf = true; decide) (by rw [maxLen_eq]; show c.nm.size ≤ _; omega) (by show (Lit.int .i64 0).wf = true; decide) (fun x hx => (h.term hx).ok), ?_, ?_, ?_⟩
  · have hp : partE 3 c.nm 0 c.ts.length = 0 := by
      unfold partE
      simp [needsL]; omega
    rw [firstT, if_neg (by simp [hp])]
    exact firstTs_all fun x hx => (h.term hx).right
  · rw [shortT, shortTs_all, Bool.and_eq_true, decide_eq_true_eq, List.all_eq_true]
    exact ⟨fun x hx => (h.term hx).short, hn1⟩
  · have := h.small
    have := sizeC_eqn c
    rw [sizeT]; omega
set_option maxHeartbeats 16000000 in
theorem rclaim_ev (free : List ByteArray) (hfree : free.length ≤ 1000000) (c : Cl) (hc : ClaimOK c) (ns : List ByteArray) (hns : ns.length + sizeC c ≤ 900000) (hn : ∀ s ∈ ns, s.size ≤ 100)
    (least : Int) (hle : 1 ≤ least ∧ least ≤ 5) (last : Bool) (ro : Nat) (m : Mem) (hro : ro ≤ m.length) :
    evL Tryd.prog An ro 38 [.c (encC c), .c (.sl (free.map cS)), .c (.sl (ns.map cS)), .c (.v (.int .i64 least)), .c (.v (.bool last))] m = some (.c (.v (.string (txtC free ns least last c))), m) := by
  induction hd : SizeOf.sizeOf c using Nat.strongRecOn generalizing c ns least last ro m with
  | _ d ih =>
  have S := soundC_of hc.right
  have hro1 : ro ≤ m.length + 1 := by omega
  have hzc := sizeC_eqn c
  have NO : NamesOK ns := ⟨by omega, hn⟩
  have hsub := fun (x : Cl) (hx : x ∈ c.ss) (ns' : List ByteArray) (hl' : ns'.length ≤ ns.length + 1) (hn' : ∀ s ∈ ns', s.size ≤ 100) (le' : Int) (hle' : 1 ≤ le' ∧ le' ≤ 5) (la' : Bool) (ro : Nat) (m' : Mem) (hro : ro ≤ m'.length) =>
    ih _ (by have := Cl.lt hx; omega) x (hc.sub hx) ns' (by have := sizeCs_mem hx; omega) hn' le' hle' la' ro m' hro rfl
  have hlen := fun (x : Cl) (hx : x ∈ c.ss) (ns' : List ByteArray) (hn' : ∀ s ∈ ns', s.size ≤ 100) le' la' => (hc.sub hx).len (free := free) hn' le' la'
  have htx := fun (x : Tm) (hx : x ∈ c.ts) ro m hro => rterm_ev ns NO x (hc.term hx) ro m hro
  have htl := fun (x : Tm) (hx : x ∈ c.ts) => (hc.term hx).len NO
  have hnmso := hc.nm
  have z1 := z_eq
  have z2 := z_le
  have z3 := z_not
  have z4 := z_lpar
  have z5 := z_rpar
  have z6 := z_colon
  have z7 := z_dot
  have hT := txtC_eq free ns
  have hop : c.op = 1 ∨ c.op = 2 ∨ c.op = 3 ∨ c.op = 4 ∨ c.op = 5 ∨ c.op = 6 ∨ (7 ≤ c.op ∧ c.op ≤ 10) ∨ (c.op = 11 ∨ c.op = 12) := by have := S.op; omega
  rcases hop with e | e | e | e | e | e | e | e
  · have hb : ∀ k : Int, (c.op == k) = ((1 : Int) == k) := fun k => by rw [e]
    have hC : txtC free ns least last c = trueB := by rw [hT, e]; rfl
    rw [hC]
    refine evL_by (n := 154) (by kernel_rfl) rfl fn38 rfl rfl rfl rfl ?_
    clear hT hC ih hsub hlen
    simp only [go_sem, ↓reduceIte, hb, Int.reduceBEq]
    rfl
  · have hb : ∀ k : Int, (c.op == k) = ((2 : Int) == k) := fun k => by rw [e]
    have hC : txtC free ns least last c = falseB := by rw [hT, e]; rfl
    rw [hC]
    refine evL_by (n := 154) (by kernel_rfl) rfl fn38 rfl rfl rfl rfl ?_
    clear hT hC ih hsub hlen
    simp only [go_sem, ↓reduceIte, hb, Int.reduceBEq]
    rfl
  · have hb : ∀ k : Int, (c.op == k) = ((3 : Int) == k) := fun k => by rw [e]
    have h3 := fun ro m hro => rterm_ev ns NO (.mk 3 c.nm 0 c.ts) (predOK hc) ro m hro
    have hC : txtC free ns least last c = txtT ns (.mk 3 c.nm 0 c.ts) := by
      rw [hT, e, txtT_eq]
      simp [bindB, tightB, applyX, combT, Tm.op, Tm.nm, Tm.l]
    rw [hC]
    rw [encT_mk] at h3
    simp only [cI, cS] at h3
    refine evL_by (n := 154) (by kernel_rfl) rfl fn38 rfl rfl rfl rfl ?_
    clear hT hC ih hsub hlen
    generalize txtT ns (.mk 3 c.nm 0 c.ts) = out at h3 ⊢
    simp only [go_sem, ↓reduceIte, hb, h3, hro, hro1, Int.reduceBEq]
  · have hb : ∀ k : Int, (c.op == k) = ((4 : Int) == k) := fun k => by rw [e]
    obtain ⟨a, b, hl⟩ : ∃ a b, c.ts = [a, b] := two_list (S.two (.inl e))
    have ma : a ∈ c.ts := by rw [hl]; simp
    have mb : b ∈ c.ts := by rw [hl]; simp
    have la := htl a ma
    have lb := htl b mb
    have ta := htx a ma
    have tb := htx b mb
    have hx0 : c.ts[0]? = some a := by rw [hl]; rfl
    have hx1 : c.ts[1]? = some b := by rw [hl]; rfl
    have hC : txtC free ns least last c = (txtT ns a ++ eqB) ++ txtT ns b := by rw [hT, e, hl]; rfl
    rw [hC]
    have c1 : (txtT ns a).size + eqB.size ≤ 9223372036854775807 := by omega
    have c2 : (txtT ns a).size + eqB.size + (txtT ns b).size ≤ 9223372036854775807 := by omega
    refine evL_by (n := 154) (by kernel_rfl) rfl fn38 rfl rfl rfl rfl ?_
    clear hT hC ih hsub hlen
    simp only [go_sem, ↓reduceIte, hb, i01, hx0, hx1, ta, tb, c1, c2, hro, hro1, Int.reduceBEq]
  · have hb : ∀ k : Int, (c.op == k) = ((5 : Int) == k) := fun k => by rw [e]
    obtain ⟨a, b, hl⟩ : ∃ a b, c.ts = [a, b] := two_list (S.two (.inr e))
    have ma : a ∈ c.ts := by rw [hl]; simp
    have mb : b ∈ c.ts := by rw [hl]; simp
    have la := htl a ma
    have lb := htl b mb
    have ta := htx a ma
    have tb := htx b mb
    have hx0 : c.ts[0]? = some a := by rw [hl]; rfl
    have hx1 : c.ts[1]? = some b := by rw [hl]; rfl
    have hC : txtC free ns least last c = (txtT ns a ++ leB) ++ txtT ns b := by rw [hT, e, hl]; rfl
    rw [hC]
    have c1 : (txtT ns a).size + leB.size ≤ 9223372036854775807 := by omega
    have c2 : (txtT ns a).size + leB.size + (txtT ns b).size ≤ 9223372036854775807 := by omega
    refine evL_by (n := 154) (by kernel_rfl) rfl fn38 rfl rfl rfl rfl ?_
    clear hT hC ih hsub hlen
    simp only [go_sem, ↓reduceIte, hb, i01, hx0, hx1, ta, tb, c1, c2, hro, hro1, Int.reduceBEq]
  · have hb : ∀ k : Int, (c.op == k) = ((6 : Int) == k) := fun k => by rw [e]
    obtain ⟨a, hl⟩ : ∃ a, c.ss = [a] := List.length_eq_one_iff.1 (S.one (.inl e))
    have ma : a ∈ c.ss := by rw [hl]; simp
    have hx0 : c.ss[0]? = some a := by rw [hl]; rfl
    have la := hlen a ma ns hn 5 last
    have sa := hsub a ma ns (by omega) hn 5 (by omega) last
    have hC : txtC free ns least last c = notB ++ txtC free ns 5 last a := by
      rw [hT, e, hl]
      simp [txt0]
    rw [hC]
    have c1 : notB.size + (txtC free ns 5 last a).size ≤ 9223372036854775807 := by omega
    refine evL_by (n := 154) (by kernel_rfl) rfl fn38 rfl rfl rfl rfl ?_
    clear hT hC ih hsub hlen
    generalize txtC free ns 5 last a = xa at sa c1 ⊢
    simp only [go_sem, ↓reduceIte, hb, hx0, sa, c1, hro, hro1, Int.reduceBEq]
  · have b1 : (c.op == 1) = false := beq_eq_false_iff_ne.2 (by omega)
    have b2 : (c.op == 2) = false := beq_eq_false_iff_ne.2 (by omega)
    have b3 : (c.op == 3) = false := beq_eq_false_iff_ne.2 (by omega)
    have b4 : (c.op == 4) = false := beq_eq_false_iff_ne.2 (by omega)
    have b5 : (c.op == 5) = false := beq_eq_false_iff_ne.2 (by omega)
    have b6 : (c.op == 6) = false := beq_eq_false_iff_ne.2 (by omega)
    have b11 : (c.op == 11) = false := beq_eq_false_iff_ne.2 (by omega)
    have b12 : (c.op == 12) = false := beq_eq_false_iff_ne.2 (by omega)
    have bB : bindB c.op = false := by unfold bindB; rw [b11, b12]; rfl
    obtain ⟨a, b, hl⟩ : ∃ a b, c.ss = [a, b] := two_list (S.both e)
    have ma : a ∈ c.ss := by rw [hl]; simp
    have mb : b ∈ c.ss := by rw [hl]; simp
    have hx0 : c.ss[0]? = some a := by rw [hl]; rfl
    have hx1 : c.ss[1]? = some b := by rw [hl]; rfl
    have hlo := fun ro m => loose_ev c.op ro m
    have hsi := fun ro m => sign_ev c.op ro m
    have ht4 : 1 ≤ tightB c.op ∧ tightB c.op ≤ 4 := by
      have : c.op = 7 ∨ c.op = 8 ∨ c.op = 9 ∨ c.op = 10 := by omega
      rcases this with k | k | k | k <;> rw [k] <;> decide
    have hs5 : (signB c.op).size ≤ 5 := by
      have : c.op = 7 ∨ c.op = 8 ∨ c.op = 9 ∨ c.op = 10 := by omega
      rcases this with k | k | k | k <;> rw [k] <;> decide
    have hX : ∀ least last, txtC free ns least last c = brX (decide (tightB c.op < least)) ((txtC free ns (tightB c.op + 1) false a ++ signB c.op) ++ txtC free ns (tightB c.op) (last || decide (tightB c.op < least)) b) := fun least last => by
      rw [hT, if_neg (by omega), if_neg (by omega), if_neg (by omega), if_neg (by omega), if_neg (by omega), if_neg (by rw [bB]; decide), if_neg (by omega), hl]
      simp only [txt0, txt1]
    have la := hlen a ma ns hn (tightB c.op + 1) false
    have lb := fun la' => hlen b mb ns hn (tightB c.op) la'
    have hw : IntKind.i64.wrap (tightB c.op + 1) = tightB c.op + 1 := wrap64 (by omega) (by omega)
    have sa := hsub a ma ns (by omega) hn (tightB c.op + 1) (by omega) false
    have sb := hsub b mb ns (by omega) hn (tightB c.op) (by omega)
    clear hT hlen hsub ih
    generalize tightB c.op = T at *
    generalize signB c.op = sg at *
    have inner : ∀ (least : Int) (last : Bool) (ro : Nat) (m' : Mem), ro ≤ m'.length → ¬ T < least →
        evL Tryd.prog An ro 38 [.c (encC c), .c (.sl (free.map cS)), .c (.sl (ns.map cS)), .c (.v (.int .i64 least)), .c (.v (.bool last))] m' = some (.c (.v (.string ((txtC free ns (T + 1) false a ++ sg) ++ txtC free ns T last b))), m') := by
      intro least last ro m' hro' hT'
      have hro1' : ro ≤ m'.length + 1 := by omega
      have d1 : decide (T < least) = false := dec_f hT'
      have lb' := lb last
      have sa' := sa
      have sb' := sb last
      have c1 : (txtC free ns (T + 1) false a).size + sg.size ≤ 9223372036854775807 := by omega
      have c2 : (txtC free ns (T + 1) false a).size + sg.size + (txtC free ns T last b).size ≤ 9223372036854775807 := by omega
      refine evL_by (n := 154) (by kernel_rfl) rfl fn38 rfl rfl rfl rfl ?_
      clear hX sa sb
      generalize txtC free ns (T + 1) false a = xa at sa' c1 c2 ⊢
      generalize txtC free ns T last b = xb at sb' c2 ⊢
      simp only [go_sem, ↓reduceIte, b1, b2, b3, b4, b5, b6, b11, b12, hlo, hsi, i01, hx0, hx1, sa', sb', d1, hw, c1, c2, hro', hro1']
    rw [hX]
    by_cases hlt2 : T < least
    · have d1 : decide (T < least) = true := dec_t hlt2
      have hin := fun (ro : Nat) (m' : Mem) (hro : ro ≤ m'.length) => inner 1 true ro m' hro (by omega)
      have lb' := lb true
      rw [d1, Bool.or_true, brX_t]
      have c0 : ((txtC free ns (T + 1) false a ++ sg) ++ txtC free ns T true b).size ≤ 1000000000 := by rw [cat_size, cat_size]; omega
      refine evL_by (n := 154) (by kernel_rfl) rfl fn38 rfl rfl rfl rfl ?_
      clear hX sa sb inner
      generalize (txtC free ns (T + 1) false a ++ sg) ++ txtC free ns T true b = out at hin c0 ⊢
      have hbr := fun ro m => brackets_ev out c0 ro m
      simp only [go_sem, ↓reduceIte, b1, b2, b3, b4, b5, b6, b11, b12, hlo, hin, hbr, d1, hro, hro1]
    · rw [dec_f hlt2, Bool.or_false, brX_f]
      exact inner least last ro m hro hlt2
  · have b1 : (c.op == 1) = false := beq_eq_false_iff_ne.2 (by omega)
    have b2 : (c.op == 2) = false := beq_eq_false_iff_ne.2 (by omega)
    have b3 : (c.op == 3) = false := beq_eq_false_iff_ne.2 (by omega)
    have b4 : (c.op == 4) = false := beq_eq_false_iff_ne.2 (by omega)
    have b5 : (c.op == 5) = false := beq_eq_false_iff_ne.2 (by omega)
    have b6 : (c.op == 6) = false := beq_eq_false_iff_ne.2 (by omega)
    have bB : bindB c.op = true := by unfold bindB; rcases e with e | e <;> rw [e] <;> rfl
    obtain ⟨a, hl⟩ : ∃ a, c.ss = [a] := List.length_eq_one_iff.1 (S.one (.inr e))
    have ma : a ∈ c.ss := by rw [hl]; simp
    have hx0 : c.ss[0]? = some a := by rw [hl]; rfl
    have hX : ∀ least last, txtC free ns least last c = brX (!last) (((((markB c.op ++ calledB c.nm (free ++ ns)) ++ colonB) ++ c.so) ++ dotB) ++ txtC free (ns ++ [calledB c.nm (free ++ ns)]) 1 true a) := fun least last => by
      rw [hT, if_neg (by omega), if_neg (by omega), if_neg (by omega), if_neg (by omega), if_neg (by omega), if_pos bB, hl]
      simp only [txt0]
    have hcal := calledB_size c.nm (free ++ ns)
    have hcl := fun ro m => rcalled_ev c.nm hnmso.1 (free ++ ns) (by rw [List.length_append]; omega) ro m
    have hn2 : ∀ s ∈ ns ++ [calledB c.nm (free ++ ns)], s.size ≤ 100 := fun s hs => by
      rcases List.mem_append.1 hs with hs | hs
      · exact hn s hs
      · obtain rfl := List.mem_singleton.1 hs; omega
    have la := hlen a ma _ hn2 1 true
    have sa := hsub a ma _ (by simp) hn2 1 (by omega) true
    have hmk : (markB c.op).size = 1 := by unfold markB; split <;> rfl
    clear hT hlen hsub ih
    generalize calledB c.nm (free ++ ns) = cal at *
    generalize txtC free (ns ++ [cal]) 1 true a = xa at *
    have c5 : (ns.length + 1) * 16 ≤ 140737488355328 := by omega
    have c6 : ns.length + 1 ≤ 9223372036854775807 := by omega
    have f1 : free.length * 16 ≤ 140737488355328 := by omega
    have f2 : free.length ≤ 9223372036854775807 := by omega
    have f3 : (free.length + ns.length) * 16 ≤ 140737488355328 := by omega
    have f4 : free.length + ns.length ≤ 9223372036854775807 := by omega
    have f5 : ns.length * 16 ≤ 140737488355328 := by omega
    have f6 : ns.length ≤ 9223372036854775807 := by omega
    have inner : ∀ (least : Int) (ro : Nat) (m' : Mem), ro ≤ m'.length →
        evL Tryd.prog An ro 38 [.c (encC c), .c (.sl (free.map cS)), .c (.sl (ns.map cS)), .c (.v (.int .i64 least)), .c (.v (.bool true))] m' = some (.c (.v (.string (((((markB c.op ++ cal) ++ colonB) ++ c.so) ++ dotB) ++ xa))), m') := by
      intro least ro m' hro'
      have hro1' : ro ≤ m'.length + 1 := by omega
      have sa' := sa
      have hcl' := hcl
      refine evL_by (n := 154) (by kernel_rfl) rfl fn38 rfl rfl rfl rfl ?_
      clear hX sa hcl
      rcases e with e | e
      · have b11 : (c.op == 11) = true := by rw [e]; rfl
        have b12 : (c.op == 12) = false := by rw [e]; rfl
        have hm : markB c.op = bangB := by rw [e]; rfl
        rw [hm] at hmk ⊢
        have c1 : bangB.size + cal.size ≤ 9223372036854775807 := by omega
        have c2 : bangB.size + cal.size + colonB.size ≤ 9223372036854775807 := by omega
        have c3 : bangB.size + cal.size + colonB.size + c.so.size ≤ 9223372036854775807 := by omega
        have c4 : bangB.size + cal.size + colonB.size + c.so.size + dotB.size ≤ 9223372036854775807 := by omega
        have c7 : bangB.size + cal.size + colonB.size + c.so.size + dotB.size + xa.size ≤ 9223372036854775807 := by omega
        simp only [go_sem, ↓reduceIte, b1, b2, b3, b4, b5, b6, b11, b12, hx0, sa', hcl', cat_S, snoc_S, f1, f2, f3, f4, f5, f6, c1, c2, c3, c4, c5, c6, c7, hro', hro1']
      · have b11 : (c.op == 11) = false := by rw [e]; rfl
        have b12 : (c.op == 12) = true := by rw [e]; rfl
        have hm : markB c.op = askB := by rw [e]; rfl
        rw [hm] at hmk ⊢
        have c1 : askB.size + cal.size ≤ 9223372036854775807 := by omega
        have c2 : askB.size + cal.size + colonB.size ≤ 9223372036854775807 := by omega
        have c3 : askB.size + cal.size + colonB.size + c.so.size ≤ 9223372036854775807 := by omega
        have c4 : askB.size + cal.size + colonB.size + c.so.size + dotB.size ≤ 9223372036854775807 := by omega
        have c7 : askB.size + cal.size + colonB.size + c.so.size + dotB.size + xa.size ≤ 9223372036854775807 := by omega
        simp only [go_sem, ↓reduceIte, b1, b2, b3, b4, b5, b6, b11, b12, hx0, sa', hcl', cat_S, snoc_S, f1, f2, f3, f4, f5, f6, c1, c2, c3, c4, c5, c6, c7, hro', hro1']
    rw [hX]
    cases last with
    | true => exact inner least ro m hro
    | false =>
      have hin := fun (ro : Nat) (m' : Mem) (hro : ro ≤ m'.length) => inner 1 ro m' hro
      rw [Bool.not_false, brX_t]
      have c0 : (((((markB c.op ++ cal) ++ colonB) ++ c.so) ++ dotB) ++ xa).size ≤ 1000000000 := by rw [cat_size, cat_size, cat_size, cat_size, cat_size]; omega
      refine evL_by (n := 154) (by kernel_rfl) rfl fn38 rfl rfl rfl rfl ?_
      clear hX sa inner hcl
      generalize ((((markB c.op ++ cal) ++ colonB) ++ c.so) ++ dotB) ++ xa = out at hin c0 ⊢
      have hbr := fun ro m => brackets_ev out c0 ro m
      rcases e with e | e
      · have b11 : (c.op == 11) = true := by rw [e]; rfl
        simp only [go_sem, ↓reduceIte, b1, b2, b3, b4, b5, b6, b11, hin, hbr, hro, hro1]
      · have b11 : (c.op == 11) = false := by rw [e]; rfl
        have b12 : (c.op == 12) = true := by rw [e]; rfl
        simp only [go_sem, ↓reduceIte, b1, b2, b3, b4, b5, b6, b11, b12, hin, hbr, hro, hro1]
end Go.Eng
