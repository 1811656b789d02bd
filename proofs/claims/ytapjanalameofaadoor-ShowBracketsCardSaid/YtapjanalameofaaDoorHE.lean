-- own work: an evaluator of the program's code, and what it answers
import Derived.Test.YtapjanalameofaaDoorHD
import Derived.Test.YtapjanalameofaaDoorHC
import Derived.Test.YtapjanalameofaaDoorHA
import Derived.Test.YtapjanalameofaaDoorVA
/- The names that stand in a claim: package show and the reference. -/
set_option maxRecDepth 100000
set_option linter.unusedVariables false
set_option linter.unusedSimpArgs false
namespace Go.Eng
open Go Go.Proofs
theorem cat_S (a b : List ByteArray) : List.map cS a ++ List.map cS b = List.map cS (a ++ b) := List.map_append.symm
/-- an appended slice's elements: their size, once it was seen -/
def osN (os : Option Nat) : List ByteArray → Option Nat
  | [] => os
  | _ :: _ => some 1
theorem osN_ok {os : Option Nat} (h : os = none ∨ os = some 1) (l : List ByteArray) : osN os l = none ∨ osN os l = some 1 := by
  cases l with
  | nil => exact h
  | cons x r => exact .inr rfl
theorem osN_append (os : Option Nat) (a b : List ByteArray) : osN (osN os a) b = osN os (a ++ b) := by
  cases a with
  | nil => rfl
  | cons x r => cases b <;> rfl
theorem os_snoc (os : Option Nat) (a : List ByteArray) (x : ByteArray) : osN os (a ++ [x]) = some 1 := by cases a <;> rfl
def ownT (t : Tm) : List ByteArray := if usesB t.op = true then [t.nm] else []
def ownC (c : Cl) : List ByteArray := if c.op = 3 then [c.nm] else []
theorem ownT_len (t : Tm) : (ownT t).length ≤ 1 := by unfold ownT; split <;> simp
theorem ownC_len (c : Cl) : (ownC c).length ≤ 1 := by unfold ownC; split <;> simp
theorem namesT_own (t : Tm) : namesT t = ownT t ++ namesTs t.l := namesT_eq t
theorem namesC_own (c : Cl) : namesC c = ownC c ++ (namesTs c.ts ++ namesCs c.ss) := namesC_eq c
theorem sizeCs_mem {l : List Cl} {x : Cl} (h : x ∈ l) : sizeC x ≤ sizeCs l := by
  induction l with
  | nil => cases h
  | cons y r ih =>
    simp only [sizeCs]
    rcases List.mem_cons.1 h with rfl | h
    · omega
    · have := ih h; omega
set_option maxHeartbeats 8000000 in
theorem snames_term (t : Tm) (ht : okT t) (ns : List ByteArray) (os : Option Nat) (hos : os = none ∨ os = some 1) (D B : Nat) (m : Mem) (ro : Nat) (hro : ro ≤ D) (hD : D < m.length) (hz : ns.length + sizeT t ≤ 1000000) :
    evL Tryd.prog An ro 61 [.p D B 0, .c (encT t)] (put m D B [.tip os (ns.map cS)]) = some (.tup [], put m D B [.tip (osN os (namesT t)) ((ns ++ namesT t).map cS)]) := by
  induction hd : SizeOf.sizeOf t using Nat.strongRecOn generalizing t ns os m ro with
  | _ d ih =>
  have hlen := ht.len
  rw [maxLen_eq] at hlen
  have hroD : ro ≤ m.length := by omega
  have hro1 : ro ≤ m.length + 1 := by omega
  have e1 : (D = m.length) = False := by simp; omega
  have e2 : ∀ b, (put m D B b).length = m.length := put_len m D B
  have l2 : ∀ fr b, look (fr :: put m D B b) D B = some b := fun fr b => (look_low (by rw [e2]; exact hD)).trans (lookq_put m D B b hD)
  have p2 : ∀ fr b b', put (fr :: put m D B b) D B b' = fr :: put m D B b' := fun fr b b' => (put_low (by rw [e2]; exact hD)).trans (by rw [put_put])
  have lt : ∀ fr b t, look (fr :: put m D B b) m.length t = lk fr t := fun fr b t => by have := look_top (fr := fr) (r := put m D B b) (t := t); rwa [e2] at this
  have pt : ∀ fr b t b', put (fr :: put m D B b) m.length t b' = upd fr t b' :: put m D B b := fun fr b t b' => by have := put_top (fr := fr) (r := put m D B b) (t := t) (b := b'); rwa [e2] at this
  have hlt : decide (D < m.length + 1) = true := dec_t (by omega)
  have hzt := sizeT_eq t
  have hsub := fun (x : Tm) (hx : x ∈ t.l) (ns' : List ByteArray) (os' : Option Nat) (hos' : os' = none ∨ os' = some 1) (hz' : ns'.length + sizeT x ≤ 1000000) (fr : Fr) (ro : Nat) (hro : ro ≤ D) => by
    have := ih _ (by have := Tm.lt hx; omega) x (ht.arg hx) ns' os' hos' (fr :: m) ro hro (by simp only [List.length_cons]; omega) hz' rfl
    rw [put_low hD, put_low hD] at this
    exact this
  refine evL_by (n := 36) (by kernel_rfl) rfl fn61 rfl rfl rfl rfl ?_
  refine cut ⟨[.p D B 0, .c (encT t), .undef, boxTerm t] ++ List.replicate 32 .undef, [] :: put m D B [.tip os (ns.map cS)]⟩ rfl (by simp only [go_sem, ↓reduceIte, upS_n, leL_nil, leL_cons, or_true, true_or, and_self]) ?_
  have hl0 := ownT_len t
  refine cut ⟨[.p D B 0, .c (encT t), .undef, boxTerm t] ++ List.replicate 32 .undef, [] :: put m D B [.tip (osN os (ownT t)) ((ns ++ ownT t).map cS)]⟩ rfl (by
    clear hsub ih
    have c5 : (ns.length + 1) * 16 ≤ 140737488355328 := by omega
    have c6 : ns.length + 1 ≤ 9223372036854775807 := by omega
    unfold ownT usesB
    cases b1 : (t.op == 1) with
    | true =>
      simp only [go_sem, ↓reduceIte, b1, l2, p2, lt, pt, e1, e2, c5, c6, hos, snoc_S, osN, hro, hroD, hro1, hlt, upS_n, leL_nil, leL_cons, or_true, true_or, and_self]
    | false =>
      cases b3 : (t.op == 3) with
      | true =>
        simp only [go_sem, ↓reduceIte, b1, b3, l2, p2, lt, pt, e1, e2, c5, c6, hos, snoc_S, osN, hro, hroD, hro1, hlt, upS_n, leL_nil, leL_cons, or_true, true_or, and_self]
      | false =>
        simp only [go_sem, ↓reduceIte, b1, b3, List.append_nil, osN, upS_n, leL_nil, leL_cons, or_true, true_or, and_self]) ?_
  rw [namesT_own]
  generalize ownT t = l0 at hl0 ⊢
  simp only [go_sem, ↓reduceIte]
  generalize hL : loopW _ _ = L
  obtain ⟨i, k1, hE, rfl⟩ := loopW_at hL (fun i : Nat => [(28, .c (.v (.int .i64 i)))]) (fun i => [] :: put m D B [.tip (osN os (l0 ++ namesTs (t.l.take i))) ((ns ++ (l0 ++ namesTs (t.l.take i))).map cS)]) (fun i => i ≤ t.l.length) (fun i => i = t.l.length) (fun i => t.l.length - i) 0 rfl (by simp [namesTs]) (by omega) (by
    rintro i k1 hE
    obtain ⟨x, hx⟩ : ∃ x, t.l[i]? = some x := ⟨_, List.getElem?_eq_getElem (by omega)⟩
    have d1 : decide ((i : Int) < (t.l.length : Int)) = true := dec_t (by omega)
    have d3 : IntKind.i64.wrap ((i : Int) + 1) = ((i + 1 : Nat) : Int) := wrap64 (by omega) (by omega)
    have q1 := namesTs_len (t.l.take i)
    have q2 := sizeTs_take _ _ _ hx
    have q3 := sizeTs_le t.l (i + 1)
    have hc := hsub x (List.mem_of_getElem? hx) (ns ++ (l0 ++ namesTs (t.l.take i))) (osN os (l0 ++ namesTs (t.l.take i))) (osN_ok hos _) (by simp only [List.length_append]; omega)
    refine ⟨i + 1, by omega, by omega, ?_⟩
    rw [round_go, namesTs_take _ _ _ hx]
    rw [osN_append] at hc
    simp only [List.append_assoc] at hc ⊢
    generalize osN os (l0 ++ namesTs (t.l.take i)) = o1 at hc ⊢
    generalize osN os (l0 ++ (namesTs (t.l.take i) ++ namesT x)) = o2 at hc ⊢
    generalize ns ++ (l0 ++ namesTs (t.l.take i)) = n1 at hc ⊢
    generalize ns ++ (l0 ++ (namesTs (t.l.take i) ++ namesT x)) = n2 at hc ⊢
    simp only [go_sem, ↓reduceIte, d1, d3, hx, hc, lt, pt, e1, e2, hro, hroD, hro1, hlt])
  clear hL
  subst hE
  rw [loopW_go]
  have d1 : decide ((t.l.length : Int) < (t.l.length : Int)) = false := dec_f (by omega)
  rw [List.take_length]
  simp only [go_sem, ↓reduceIte, d1]
set_option maxHeartbeats 8000000 in
theorem snames_claim (c : Cl) (hc : okC c) (ns : List ByteArray) (os : Option Nat) (hos : os = none ∨ os = some 1) (D B : Nat) (m : Mem) (ro : Nat) (hro : ro ≤ D) (hD : D < m.length) (hz : ns.length + sizeC c ≤ 1000000) :
    evL Tryd.prog An ro 36 [.p D B 0, .c (encC c)] (put m D B [.tip os (ns.map cS)]) = some (.tup [], put m D B [.tip (osN os (namesC c)) ((ns ++ namesC c).map cS)]) := by
  induction hd : SizeOf.sizeOf c using Nat.strongRecOn generalizing c ns os m ro with
  | _ d ih =>
  have hts := hc.len.1
  have hss := hc.len.2
  rw [maxLen_eq] at hts hss
  have hroD : ro ≤ m.length := by omega
  have hro1 : ro ≤ m.length + 1 := by omega
  have e1 : (D = m.length) = False := by simp; omega
  have e2 : ∀ b, (put m D B b).length = m.length := put_len m D B
  have l2 : ∀ fr b, look (fr :: put m D B b) D B = some b := fun fr b => (look_low (by rw [e2]; exact hD)).trans (lookq_put m D B b hD)
  have p2 : ∀ fr b b', put (fr :: put m D B b) D B b' = fr :: put m D B b' := fun fr b b' => (put_low (by rw [e2]; exact hD)).trans (by rw [put_put])
  have lt : ∀ fr b t, look (fr :: put m D B b) m.length t = lk fr t := fun fr b t => by have := look_top (fr := fr) (r := put m D B b) (t := t); rwa [e2] at this
  have pt : ∀ fr b t b', put (fr :: put m D B b) m.length t b' = upd fr t b' :: put m D B b := fun fr b t b' => by have := put_top (fr := fr) (r := put m D B b) (t := t) (b := b'); rwa [e2] at this
  have hlt : decide (D < m.length + 1) = true := dec_t (by omega)
  have hzt := sizeC_eqn c
  have hsubT := fun (x : Tm) (hx : x ∈ c.ts) (ns' : List ByteArray) (os' : Option Nat) (hos' : os' = none ∨ os' = some 1) (hz' : ns'.length + sizeT x ≤ 1000000) (fr : Fr) (ro : Nat) (hro : ro ≤ D) => by
    have := snames_term x (hc.arg.1 x hx) ns' os' hos' D B (fr :: m) ro hro (by simp only [List.length_cons]; omega) hz'
    rw [put_low hD, put_low hD] at this
    exact this
  have hsubC := fun (x : Cl) (hx : x ∈ c.ss) (ns' : List ByteArray) (os' : Option Nat) (hos' : os' = none ∨ os' = some 1) (hz' : ns'.length + sizeC x ≤ 1000000) (fr : Fr) (ro : Nat) (hro : ro ≤ D) => by
    have := ih _ (by have := Cl.lt hx; omega) x (hc.arg.2 x hx) ns' os' hos' (fr :: m) ro hro (by simp only [List.length_cons]; omega) hz' rfl
    rw [put_low hD, put_low hD] at this
    exact this
  refine evL_by (n := 44) (by kernel_rfl) rfl fn36 rfl rfl rfl rfl ?_
  refine cut ⟨[.p D B 0, .c (encC c), .undef, boxClaim c] ++ List.replicate 40 .undef, [] :: put m D B [.tip os (ns.map cS)]⟩ rfl (by simp only [go_sem, ↓reduceIte, upS_n, leL_nil, leL_cons, or_true, true_or, and_self]) ?_
  have hl0 := ownC_len c
  refine cut ⟨[.p D B 0, .c (encC c), .undef, boxClaim c] ++ List.replicate 40 .undef, [] :: put m D B [.tip (osN os (ownC c)) ((ns ++ ownC c).map cS)]⟩ rfl (by
    clear hsubT hsubC ih
    have c5 : (ns.length + 1) * 16 ≤ 140737488355328 := by omega
    have c6 : ns.length + 1 ≤ 9223372036854775807 := by omega
    unfold ownC
    by_cases h3 : c.op = 3
    · have b3 : (c.op == 3) = true := by simp [h3]
      rw [if_pos h3]
      simp only [go_sem, ↓reduceIte, b3, l2, p2, lt, pt, e1, e2, c5, c6, hos, snoc_S, osN, hro, hroD, hro1, hlt, upS_n, leL_nil, leL_cons, or_true, true_or, and_self]
    · have b3 : (c.op == 3) = false := by simp [h3]
      rw [if_neg h3]
      simp only [go_sem, ↓reduceIte, b3, List.append_nil, osN, upS_n, leL_nil, leL_cons, or_true, true_or, and_self]) ?_
  rw [namesC_own]
  generalize ownC c = l0 at hl0 ⊢
  simp only [go_sem, ↓reduceIte]
  generalize hL : loopW _ _ = L
  obtain ⟨i, k1, hE, rfl⟩ := loopW_at hL (fun i : Nat => [(25, .c (.v (.int .i64 i)))]) (fun i => [] :: put m D B [.tip (osN os (l0 ++ namesTs (c.ts.take i))) ((ns ++ (l0 ++ namesTs (c.ts.take i))).map cS)]) (fun i => i ≤ c.ts.length) (fun i => i = c.ts.length) (fun i => c.ts.length - i) 0 rfl (by simp [namesTs]) (by omega) (by
    rintro i k1 hE
    obtain ⟨x, hx⟩ : ∃ x, c.ts[i]? = some x := ⟨_, List.getElem?_eq_getElem (by omega)⟩
    have d1 : decide ((i : Int) < (c.ts.length : Int)) = true := dec_t (by omega)
    have d3 : IntKind.i64.wrap ((i : Int) + 1) = ((i + 1 : Nat) : Int) := wrap64 (by omega) (by omega)
    have q1 := namesTs_len (c.ts.take i)
    have q2 := sizeTs_take _ _ _ hx
    have q3 := sizeTs_le c.ts (i + 1)
    have hcl := hsubT x (List.mem_of_getElem? hx) (ns ++ (l0 ++ namesTs (c.ts.take i))) (osN os (l0 ++ namesTs (c.ts.take i))) (osN_ok hos _) (by simp only [List.length_append]; omega)
    refine ⟨i + 1, by omega, by omega, ?_⟩
    rw [round_go, namesTs_take _ _ _ hx]
    rw [osN_append] at hcl
    simp only [List.append_assoc] at hcl ⊢
    generalize osN os (l0 ++ namesTs (c.ts.take i)) = o1 at hcl ⊢
    generalize osN os (l0 ++ (namesTs (c.ts.take i) ++ namesT x)) = o2 at hcl ⊢
    generalize ns ++ (l0 ++ namesTs (c.ts.take i)) = n1 at hcl ⊢
    generalize ns ++ (l0 ++ (namesTs (c.ts.take i) ++ namesT x)) = n2 at hcl ⊢
    simp only [go_sem, ↓reduceIte, d1, d3, hx, hcl, lt, pt, e1, e2, hro, hroD, hro1, hlt])
  clear hL
  subst hE
  rw [loopW_go]
  have d1 : decide ((c.ts.length : Int) < (c.ts.length : Int)) = false := dec_f (by omega)
  rw [List.take_length]
  have hl1 : (l0 ++ namesTs c.ts).length ≤ 1 + sizeTs c.ts := by have := namesTs_len c.ts; rw [List.length_append]; omega
  have hap : l0 ++ (namesTs c.ts ++ namesCs c.ss) = (l0 ++ namesTs c.ts) ++ namesCs c.ss := (List.append_assoc _ _ _).symm
  rw [hap]
  clear hap
  generalize l0 ++ namesTs c.ts = l1 at hl1 ⊢
  simp only [go_sem, ↓reduceIte, d1]
  generalize hL : loopW _ _ = L
  obtain ⟨i, k1, hE, rfl⟩ := loopW_at hL (fun i : Nat => [(36, .c (.v (.int .i64 i)))]) (fun i => [] :: put m D B [.tip (osN os (l1 ++ namesCs (c.ss.take i))) ((ns ++ (l1 ++ namesCs (c.ss.take i))).map cS)]) (fun i => i ≤ c.ss.length) (fun i => i = c.ss.length) (fun i => c.ss.length - i) 0 rfl (by simp [namesCs]) (by omega) (by
    rintro i k1 hE
    obtain ⟨x, hx⟩ : ∃ x, c.ss[i]? = some x := ⟨_, List.getElem?_eq_getElem (by omega)⟩
    have d1 : decide ((i : Int) < (c.ss.length : Int)) = true := dec_t (by omega)
    have d3 : IntKind.i64.wrap ((i : Int) + 1) = ((i + 1 : Nat) : Int) := wrap64 (by omega) (by omega)
    have q1 := namesCs_len (c.ss.take i)
    have q2 := sizeCs_take _ _ _ hx
    have q3 := sizeCs_le c.ss (i + 1)
    have hcl := hsubC x (List.mem_of_getElem? hx) (ns ++ (l1 ++ namesCs (c.ss.take i))) (osN os (l1 ++ namesCs (c.ss.take i))) (osN_ok hos _) (by simp only [List.length_append] at hl1 ⊢; omega)
    refine ⟨i + 1, by omega, by omega, ?_⟩
    rw [round_go, namesCs_take _ _ _ hx]
    rw [osN_append] at hcl
    simp only [List.append_assoc] at hcl ⊢
    generalize osN os (l1 ++ namesCs (c.ss.take i)) = o1 at hcl ⊢
    generalize osN os (l1 ++ (namesCs (c.ss.take i) ++ namesC x)) = o2 at hcl ⊢
    generalize ns ++ (l1 ++ namesCs (c.ss.take i)) = n1 at hcl ⊢
    generalize ns ++ (l1 ++ (namesCs (c.ss.take i) ++ namesC x)) = n2 at hcl ⊢
    simp only [go_sem, ↓reduceIte, d1, d3, hx, hcl, lt, pt, e1, e2, hro, hroD, hro1, hlt])
  clear hL
  subst hE
  rw [loopW_go]
  have d2 : decide ((c.ss.length : Int) < (c.ss.length : Int)) = false := dec_f (by omega)
  rw [List.take_length]
  simp only [go_sem, ↓reduceIte, d2]
set_option maxHeartbeats 4000000 in
theorem rnames_term (t : Tm) (ht : okT t) (hz : sizeT t ≤ 1000000) (ro : Nat) (m : Mem) :
    evL Tryd.prog An ro 68 [.c (encT t)] m = some (.c (.sl ((namesT t).map cS)), m) := by
  induction hd : SizeOf.sizeOf t using Nat.strongRecOn generalizing t ro m with
  | _ d ih =>
  have hlen := ht.len
  rw [maxLen_eq] at hlen
  have hzt := sizeT_eq t
  have hsub := fun (x : Tm) (hx : x ∈ t.l) (ro : Nat) (m : Mem) => ih _ (by have := Tm.lt hx; omega) x (ht.arg hx) (by have := sizeTs_mem hx; omega) ro m rfl
  refine evL_by (n := 34) (by kernel_rfl) rfl fn68 rfl rfl rfl rfl ?_
  refine cut ⟨[.c (encT t), boxTerm t, .tip none []] ++ List.replicate 31 .undef, [] :: m⟩ rfl (by simp only [go_sem, ↓reduceIte, upS_n, leL_nil, leL_cons, or_true, true_or, and_self]) ?_
  refine cut ⟨[.c (encT t), boxTerm t, .tip none [], .tip none []] ++ List.replicate 30 .undef, [] :: m⟩ rfl (by simp only [go_sem, ↓reduceIte, upS_n, leL_nil, leL_cons, or_true, true_or, and_self]) ?_
  have hl0 := ownT_len t
  refine cut ⟨[.c (encT t), boxTerm t, .tip none [], .tip (osN none (ownT t)) ((ownT t).map cS)] ++ List.replicate 30 .undef, [] :: m⟩ rfl (by
    clear hsub ih
    unfold ownT usesB
    cases b1 : (t.op == 1) with
    | true => simp only [go_sem, ↓reduceIte, b1, osN, cS, upS_n, leL_nil, leL_cons, or_true, true_or, and_self]
    | false =>
      cases b3 : (t.op == 3) with
      | true => simp only [go_sem, ↓reduceIte, b1, b3, osN, cS, upS_n, leL_nil, leL_cons, or_true, true_or, and_self]
      | false => simp only [go_sem, ↓reduceIte, b1, b3, osN, upS_n, leL_nil, leL_cons, or_true, true_or, and_self]) ?_
  rw [namesT_own]
  have ho := osN_ok (.inl rfl : none = none ∨ none = some 1) (ownT t)
  generalize osN none (ownT t) = os at ho ⊢
  generalize ownT t = l0 at hl0 ⊢
  simp only [go_sem, ↓reduceIte]
  generalize hL : loopW _ _ = L
  obtain ⟨i, k1, hE, rfl⟩ := loopW_at hL (fun i : Nat => [(3, .tip (if i = 0 then os else some 1) ((l0 ++ namesTs (t.l.take i)).map cS)), (4, .c (.v (.int .i64 i)))]) (fun i => [] :: m) (fun i => i ≤ t.l.length) (fun i => i = t.l.length) (fun i => t.l.length - i) 0 (by simp [sets, namesTs]) rfl (by omega) (by
    rintro i k1 hE
    obtain ⟨x, hx⟩ : ∃ x, t.l[i]? = some x := ⟨_, List.getElem?_eq_getElem (by omega)⟩
    have d1 : decide ((i : Int) < (t.l.length : Int)) = true := dec_t (by omega)
    have d3 : IntKind.i64.wrap ((i : Int) + 1) = ((i + 1 : Nat) : Int) := wrap64 (by omega) (by omega)
    have q1 := namesTs_len (t.l.take (i + 1))
    have q2 := sizeTs_le t.l (i + 1)
    have hc := hsub x (List.mem_of_getElem? hx)
    have c7 : (i + 1 = 0) = False := by simp
    have hos : (if i = 0 then os else some 1 : Option Nat) = none ∨ (if i = 0 then os else some 1 : Option Nat) = some 1 := by split <;> simp [ho]
    refine ⟨i + 1, by omega, by omega, ?_⟩
    rw [round_go]
    rw [namesTs_take _ _ _ hx, List.length_append] at q1
    rw [namesTs_take _ _ _ hx]
    generalize (if i = 0 then os else some 1 : Option Nat) = o1 at hos ⊢
    have q3 : (l0 ++ namesTs (t.l.take i)).length = l0.length + (namesTs (t.l.take i)).length := List.length_append
    rw [← List.append_assoc]
    generalize l0 ++ namesTs (t.l.take i) = out at q3 ⊢
    have c5 : (out.length + (namesT x).length) * 16 ≤ 140737488355328 := by omega
    have c6 : out.length + (namesT x).length ≤ 9223372036854775807 := by omega
    simp only [go_sem, ↓reduceIte, d1, d3, c5, c6, c7, hos, hx, hc, cat_S])
  clear hL
  subst hE
  rw [loopW_go, List.take_length]
  have d1 : decide ((t.l.length : Int) < (t.l.length : Int)) = false := dec_f (by omega)
  generalize (if t.l.length = 0 then os else some 1 : Option Nat) = o1
  simp only [go_sem, ↓reduceIte, d1]
set_option maxHeartbeats 4000000 in
theorem rnames_claim (c : Cl) (hc : okC c) (hz : sizeC c ≤ 1000000) (ro : Nat) (m : Mem) :
    evL Tryd.prog An ro 39 [.c (encC c)] m = some (.c (.sl ((namesC c).map cS)), m) := by
  induction hd : SizeOf.sizeOf c using Nat.strongRecOn generalizing c ro m with
  | _ d ih =>
  have hts := hc.len.1
  have hss := hc.len.2
  rw [maxLen_eq] at hts hss
  have hzt := sizeC_eqn c
  have hsubT := fun (x : Tm) (hx : x ∈ c.ts) (ro : Nat) (m : Mem) => rnames_term x (hc.arg.1 x hx) (by have := sizeTs_mem hx; omega) ro m
  have hsubC := fun (x : Cl) (hx : x ∈ c.ss) (ro : Nat) (m : Mem) => ih _ (by have := Cl.lt hx; omega) x (hc.arg.2 x hx) (by have := sizeCs_mem hx; omega) ro m rfl
  refine evL_by (n := 45) (by kernel_rfl) rfl fn39 rfl rfl rfl rfl ?_
  refine cut ⟨[.c (encC c), boxClaim c, .tip none []] ++ List.replicate 42 .undef, [] :: m⟩ rfl (by simp only [go_sem, ↓reduceIte, upS_n, leL_nil, leL_cons, or_true, true_or, and_self]) ?_
  refine cut ⟨[.c (encC c), boxClaim c, .tip none [], .tip none []] ++ List.replicate 41 .undef, [] :: m⟩ rfl (by simp only [go_sem, ↓reduceIte, upS_n, leL_nil, leL_cons, or_true, true_or, and_self]) ?_
  have hl0 := ownC_len c
  refine cut ⟨[.c (encC c), boxClaim c, .tip none [], .tip (osN none (ownC c)) ((ownC c).map cS)] ++ List.replicate 41 .undef, [] :: m⟩ rfl (by
    clear hsubT hsubC ih
    unfold ownC
    by_cases h3 : c.op = 3
    · have b3 : (c.op == 3) = true := by simp [h3]
      rw [if_pos h3]
      simp only [go_sem, ↓reduceIte, b3, osN, cS, upS_n, leL_nil, leL_cons, or_true, true_or, and_self]
    · have b3 : (c.op == 3) = false := by simp [h3]
      rw [if_neg h3]
      simp only [go_sem, ↓reduceIte, b3, osN, upS_n, leL_nil, leL_cons, or_true, true_or, and_self]) ?_
  rw [namesC_own]
  have ho := osN_ok (.inl rfl : none = none ∨ none = some 1) (ownC c)
  generalize osN none (ownC c) = os at ho ⊢
  generalize ownC c = l0 at hl0 ⊢
  simp only [go_sem, ↓reduceIte]
  generalize hL : loopW _ _ = L
  obtain ⟨i, k1, hE, rfl⟩ := loopW_at hL (fun i : Nat => [(3, .tip (if i = 0 then os else some 1) ((l0 ++ namesTs (c.ts.take i)).map cS)), (4, .c (.v (.int .i64 i)))]) (fun i => [] :: m) (fun i => i ≤ c.ts.length) (fun i => i = c.ts.length) (fun i => c.ts.length - i) 0 (by simp [sets, namesTs]) rfl (by omega) (by
    rintro i k1 hE
    obtain ⟨x, hx⟩ : ∃ x, c.ts[i]? = some x := ⟨_, List.getElem?_eq_getElem (by omega)⟩
    have d1 : decide ((i : Int) < (c.ts.length : Int)) = true := dec_t (by omega)
    have d3 : IntKind.i64.wrap ((i : Int) + 1) = ((i + 1 : Nat) : Int) := wrap64 (by omega) (by omega)
    have q1 := namesTs_len (c.ts.take (i + 1))
    have q2 := sizeTs_le c.ts (i + 1)
    have hcl := hsubT x (List.mem_of_getElem? hx)
    have c7 : (i + 1 = 0) = False := by simp
    have hos : (if i = 0 then os else some 1 : Option Nat) = none ∨ (if i = 0 then os else some 1 : Option Nat) = some 1 := by split <;> simp [ho]
    refine ⟨i + 1, by omega, by omega, ?_⟩
    rw [round_go]
    rw [namesTs_take _ _ _ hx, List.length_append] at q1
    rw [namesTs_take _ _ _ hx]
    generalize (if i = 0 then os else some 1 : Option Nat) = o1 at hos ⊢
    have q3 : (l0 ++ namesTs (c.ts.take i)).length = l0.length + (namesTs (c.ts.take i)).length := List.length_append
    rw [← List.append_assoc]
    generalize l0 ++ namesTs (c.ts.take i) = out at q3 ⊢
    have c5 : (out.length + (namesT x).length) * 16 ≤ 140737488355328 := by omega
    have c6 : out.length + (namesT x).length ≤ 9223372036854775807 := by omega
    simp only [go_sem, ↓reduceIte, d1, d3, c5, c6, c7, hos, hx, hcl, cat_S])
  clear hL
  subst hE
  rw [loopW_go, List.take_length]
  have d1 : decide ((c.ts.length : Int) < (c.ts.length : Int)) = false := dec_f (by omega)
  have hl1 : (l0 ++ namesTs c.ts).length ≤ 1 + sizeTs c.ts := by have := namesTs_len c.ts; rw [List.length_append]; omega
  have hap : l0 ++ (namesTs c.ts ++ namesCs c.ss) = (l0 ++ namesTs c.ts) ++ namesCs c.ss := (List.append_assoc _ _ _).symm
  rw [hap]
  clear hap
  have ho2 : (if c.ts.length = 0 then os else some 1 : Option Nat) = none ∨ (if c.ts.length = 0 then os else some 1 : Option Nat) = some 1 := by split <;> simp [ho]
  generalize (if c.ts.length = 0 then os else some 1 : Option Nat) = os2 at ho2 ⊢
  generalize l0 ++ namesTs c.ts = l1 at hl1 ⊢
  simp only [go_sem, ↓reduceIte, d1]
  generalize hL : loopW _ _ = L
  obtain ⟨i, k1, hE, rfl⟩ := loopW_at hL (fun i : Nat => [(3, .tip (if i = 0 then os2 else some 1) ((l1 ++ namesCs (c.ss.take i)).map cS)), (5, .c (.v (.int .i64 i)))]) (fun i => [] :: m) (fun i => i ≤ c.ss.length) (fun i => i = c.ss.length) (fun i => c.ss.length - i) 0 (by simp [sets, namesCs]) rfl (by omega) (by
    rintro i k1 hE
    obtain ⟨x, hx⟩ : ∃ x, c.ss[i]? = some x := ⟨_, List.getElem?_eq_getElem (by omega)⟩
    have d1 : decide ((i : Int) < (c.ss.length : Int)) = true := dec_t (by omega)
    have d3 : IntKind.i64.wrap ((i : Int) + 1) = ((i + 1 : Nat) : Int) := wrap64 (by omega) (by omega)
    have q1 := namesCs_len (c.ss.take (i + 1))
    have q2 := sizeCs_le c.ss (i + 1)
    have hcl := hsubC x (List.mem_of_getElem? hx)
    have c7 : (i + 1 = 0) = False := by simp
    have hos : (if i = 0 then os2 else some 1 : Option Nat) = none ∨ (if i = 0 then os2 else some 1 : Option Nat) = some 1 := by split <;> simp [ho2]
    refine ⟨i + 1, by omega, by omega, ?_⟩
    rw [round_go]
    rw [namesCs_take _ _ _ hx, List.length_append] at q1
    rw [namesCs_take _ _ _ hx]
    generalize (if i = 0 then os2 else some 1 : Option Nat) = o1 at hos ⊢
    have q3 : (l1 ++ namesCs (c.ss.take i)).length = l1.length + (namesCs (c.ss.take i)).length := List.length_append
    rw [← List.append_assoc]
    generalize l1 ++ namesCs (c.ss.take i) = out at q3 ⊢
    have c5 : (out.length + (namesC x).length) * 16 ≤ 140737488355328 := by omega
    have c6 : out.length + (namesC x).length ≤ 9223372036854775807 := by omega
    simp only [go_sem, ↓reduceIte, d1, d3, c5, c6, c7, hos, hx, hcl, cat_S])
  clear hL
  subst hE
  rw [loopW_go, List.take_length]
  have d2 : decide ((c.ss.length : Int) < (c.ss.length : Int)) = false := dec_f (by omega)
  generalize (if c.ss.length = 0 then os2 else some 1 : Option Nat) = o1
  simp only [go_sem, ↓reduceIte, d2]
end Go.Eng
/- What binders are called, and how tightly signs bind: package show and the reference. -/
set_option maxRecDepth 100000
set_option linter.unusedVariables false
set_option linter.unusedSimpArgs false
namespace Go.Eng
open Go Go.Proofs
def wordsR : List ByteArray := [⟨#[116, 114, 117, 101]⟩, ⟨#[102, 97, 108, 115, 101]⟩, ⟨#[115, 111, 114, 116]⟩, ⟨#[102, 117, 110]⟩, ⟨#[112, 114, 101, 100]⟩, ⟨#[97, 120, 105, 111, 109]⟩, ⟨#[116, 104, 101, 111, 114, 101, 109]⟩, ⟨#[112, 114, 111, 111, 102]⟩, ⟨#[113, 101, 100]⟩, ⟨#[97, 115]⟩, ⟨#[98, 97, 99, 107]⟩, ⟨#[105, 110, 116, 114, 111]⟩, ⟨#[115, 112, 108, 105, 116]⟩, ⟨#[108, 101, 102, 116]⟩, ⟨#[114, 105, 103, 104, 116]⟩, ⟨#[101, 120, 97, 99, 116]⟩, ⟨#[97, 115, 115, 117, 109, 101]⟩, ⟨#[97, 112, 112, 108, 121]⟩, ⟨#[119, 105, 116, 110, 101, 115, 115]⟩, ⟨#[99, 97, 115, 101, 115]⟩, ⟨#[104, 97, 118, 101]⟩, ⟨#[99, 111, 110, 116, 114, 97]⟩, ⟨#[114, 101, 102, 108]⟩, ⟨#[115, 119, 97, 112]⟩, ⟨#[112, 114, 111, 112]⟩, ⟨#[97, 114, 105, 116, 104]⟩, ⟨#[109, 105, 120, 101, 100]⟩, ⟨#[97, 117, 116, 111]⟩, ⟨#[99, 111, 110, 103, 114]⟩, ⟨#[116, 114, 121]⟩, ⟨#[108, 111, 111, 112]⟩, ⟨#[101, 97, 99, 104]⟩, ⟨#[115, 107, 105, 112]⟩, ⟨#[102, 97, 105, 108]⟩]
theorem wordsR_list : wordList = wordsR.map fun x => x.data.toList := rfl
theorem wordsR_any (s : ByteArray) : wordsR.any (isS s) = wordL s.data.toList := by
  have h : ∀ l : List ByteArray, l.any (isS s) = (l.map fun x => x.data.toList).contains s.data.toList := by
    intro l
    induction l with
    | nil => rfl
    | cons x r ih =>
      have e : isS s x = (s.data.toList == x.data.toList) := by
        unfold isS beqS
        rw [Lib.toList_data, Lib.toList_data, Bool.eq_iff_iff, beq_iff_eq, beq_iff_eq]
        exact eq_comm
      rw [List.any_cons, List.map_cons, List.contains_cons, ih, e]
  rw [h]
  unfold wordL
  rw [wordsR_list]
set_option maxHeartbeats 2000000 in
theorem rword_ev (s : ByteArray) (ro : Nat) (m : Mem) : evL Tryd.prog An ro 81 [.c (.v (.string s))] m = some (.c (.v (.bool (wordL s.data.toList))), m) := by
  have hh := fun ro m => has_ev wordsR s (by rw [maxLen_eq]; decide) ro m
  rw [wordsR_any] at hh
  simp only [wordsR, List.map_cons, List.map_nil, cS] at hh
  refine evL_by (n := 8) (by kernel_rfl) rfl fn81 rfl rfl rfl rfl ?_
  simp only [go_sem, ↓reduceIte, hh]
theorem callB_size (nm : ByteArray) : (callB nm).size ≤ nm.size + 1 := by
  unfold callB
  split
  · omega
  · have : xB.size = 1 := rfl
    omega
theorem e_x : ({ data := #[120] } : ByteArray) = xB := rfl
set_option maxHeartbeats 4000000 in
theorem scalled_ev (nm : ByteArray) (hnm : nm.size ≤ 100) (free ns : List ByteArray) (hl : free.length + ns.length ≤ 3000000) (os : Option Nat) (D B : Nat) (m : Mem) (ro : Nat) (hD : D < m.length) (hB : look m D B = some [.tip os (free.map cS)]) :
    evL Tryd.prog An ro 64 [.p D B 0, .c (.v (.string nm)), .c (.sl (ns.map cS))] m = some (.c (.v (.string (calledB nm (free ++ ns)))), m) := by
  refine evL_by (n := 33) (by kernel_rfl) rfl fn64 rfl rfl rfl rfl ?_
  have hn := fun ro m => name_ev nm (by rw [maxLen_eq]; omega) ro m
  have hw := fun ro m => word_ev nm (by rw [maxLen_eq]; omega) ro m
  have l1 : ∀ fr, look (fr :: m) D B = some [.tip os (free.map cS)] := fun fr => (look_low hD).trans hB
  have hx : xB.size = 1 := rfl
  have hlt : decide (D < m.length + 1) = true := dec_t (by omega)
  have hf := fun (b : ByteArray) (hb : b.size ≤ 1000) (ro : Nat) (m : Mem) => fresh_ev b (free ++ ns) (by omega) (by rw [List.length_append]; omega) ro m
  have hfx := fun ro m => hf xB (by omega) ro m
  have hfn := fun ro m => hf nm (by omega) ro m
  have c5 : free.length * 16 ≤ 140737488355328 := by omega
  have c6 : free.length ≤ 9223372036854775807 := by omega
  have c7 : (free.length + ns.length) * 16 ≤ 140737488355328 := by omega
  have c8 : free.length + ns.length ≤ 9223372036854775807 := by omega
  unfold calledB callB
  rw [Lib.toList_data]
  have key : ∀ b : ByteArray, decide (((freshB b (free ++ ns)).size : Int) ≤ 32) = decide ((freshB b (free ++ ns)).size ≤ 32) := fun b => by
    by_cases h : (freshB b (free ++ ns)).size ≤ 32
    · rw [dec_t h, dec_t (by omega)]
    · rw [dec_f h, dec_f (by omega)]
  cases h1 : nameL nm.data.toList with
  | false =>
    rw [h1] at hn
    by_cases h3 : (freshB xB (free ++ ns)).size ≤ 32
    · have d1 := (key xB).trans (dec_t h3)
      simp only [go_sem, ↓reduceIte, hn, l1, e_x, hfx, hlt, c5, c6, c7, c8, cat_S, d1, if_pos h3]
    · have d1 := (key xB).trans (dec_f h3)
      simp only [go_sem, ↓reduceIte, hn, l1, e_x, hfx, hlt, c5, c6, c7, c8, cat_S, d1, if_neg h3]
  | true =>
    rw [h1] at hn
    cases h2 : wordL nm.data.toList with
    | true =>
      rw [h2] at hw
      by_cases h3 : (freshB xB (free ++ ns)).size ≤ 32
      · have d1 := (key xB).trans (dec_t h3)
        simp only [go_sem, ↓reduceIte, hn, hw, l1, e_x, hfx, hlt, c5, c6, c7, c8, cat_S, d1, if_pos h3]
      · have d1 := (key xB).trans (dec_f h3)
        simp only [go_sem, ↓reduceIte, hn, hw, l1, e_x, hfx, hlt, c5, c6, c7, c8, cat_S, d1, if_neg h3]
    | false =>
      rw [h2] at hw
      by_cases h3 : (freshB nm (free ++ ns)).size ≤ 32
      · have d1 := (key nm).trans (dec_t h3)
        simp only [go_sem, ↓reduceIte, hn, hw, l1, e_x, hfn, hfx, hlt, c5, c6, c7, c8, cat_S, d1, if_pos h3]
      · have d1 := (key nm).trans (dec_f h3)
        simp only [go_sem, ↓reduceIte, hn, hw, l1, e_x, hfn, hfx, hlt, c5, c6, c7, c8, cat_S, d1, if_neg h3]
set_option maxHeartbeats 4000000 in
theorem rcalled_ev (nm : ByteArray) (hnm : nm.size ≤ 100) (l : List ByteArray) (hl : l.length ≤ 3000000) (ro : Nat) (m : Mem) :
    evL Tryd.prog An ro 65 [.c (.v (.string nm)), .c (.sl (l.map cS))] m = some (.c (.v (.string (calledB nm l))), m) := by
  refine evL_by (n := 24) (by kernel_rfl) rfl fn65 rfl rfl rfl rfl ?_
  have hn := fun ro m => bname_ev nm (by rw [maxLen_eq]; omega) ro m
  have hw := fun ro m => rword_ev nm ro m
  have hx : xB.size = 1 := rfl
  have hfx := fun ro m => rfresh_ev xB l (by omega) (by omega) ro m
  have hfn := fun ro m => rfresh_ev nm l (by omega) (by omega) ro m
  unfold calledB callB
  rw [Lib.toList_data]
  cases h1 : nameL nm.data.toList with
  | false =>
    rw [h1] at hn
    simp only [go_sem, ↓reduceIte, hn, e_x, hfx, ite_self]
  | true =>
    rw [h1] at hn
    cases h2 : wordL nm.data.toList with
    | true =>
      rw [h2] at hw
      simp only [go_sem, ↓reduceIte, hn, hw, e_x, hfx, ite_self]
    | false =>
      rw [h2] at hw
      by_cases h3 : (freshB nm l).size ≤ 32
      · have d1 : decide (((freshB nm l).size : Int) > 32) = false := dec_f (by omega)
        simp only [go_sem, ↓reduceIte, hn, hw, e_x, hfn, hfx, d1, if_pos h3]
      · have d1 : decide (((freshB nm l).size : Int) > 32) = true := dec_t (by omega)
        simp only [go_sem, ↓reduceIte, hn, hw, e_x, hfn, hfx, d1, if_neg h3]
theorem tight_none {op : Int} (h : op < 7 ∨ 10 < op) : tightB op = 0 := by
  unfold tightB
  rw [if_neg (by omega), if_neg (by omega), if_neg (by omega), if_neg (by omega)]
theorem sign_none {op : Int} (h : op < 7 ∨ 10 < op) : signB op = noS := by
  unfold signB
  rw [if_neg (by omega), if_neg (by omega), if_neg (by omega), if_neg (by omega)]
set_option maxHeartbeats 2000000 in
theorem loose_ev (op : Int) (ro : Nat) (m : Mem) : evL Tryd.prog An ro 66 [.c (.v (.int .i64 op))] m = some (.c (.v (.int .i64 (tightB op))), m) := by
  refine evL_by (n := 12) (by kernel_rfl) rfl fn66 rfl rfl rfl rfl ?_
  by_cases h : op < 7 ∨ 10 < op
  · have b7 : (op == 7) = false := beq_eq_false_iff_ne.2 (by omega)
    have b8 : (op == 8) = false := beq_eq_false_iff_ne.2 (by omega)
    have b9 : (op == 9) = false := beq_eq_false_iff_ne.2 (by omega)
    have b10 : (op == 10) = false := beq_eq_false_iff_ne.2 (by omega)
    rw [tight_none h]
    simp only [go_sem, ↓reduceIte, b7, b8, b9, b10]
  · have : op = 7 ∨ op = 8 ∨ op = 9 ∨ op = 10 := by omega
    rcases this with rfl | rfl | rfl | rfl <;> simp only [go_sem, ↓reduceIte, Int.reduceBEq] <;> rfl
set_option maxHeartbeats 2000000 in
theorem sign_ev (op : Int) (ro : Nat) (m : Mem) : evL Tryd.prog An ro 67 [.c (.v (.int .i64 op))] m = some (.c (.v (.string (signB op))), m) := by
  refine evL_by (n := 8) (by kernel_rfl) rfl fn67 rfl rfl rfl rfl ?_
  have hl := fun ro m => loose_ev op ro m
  by_cases h : op < 7 ∨ 10 < op
  · rw [tight_none h] at hl
    rw [sign_none h]
    simp only [go_sem, ↓reduceIte, hl]
    rfl
  · have : op = 7 ∨ op = 8 ∨ op = 9 ∨ op = 10 := by omega
    rcases this with rfl | rfl | rfl | rfl
    · rw [show tightB 7 = 4 from rfl] at hl
      simp only [go_sem, ↓reduceIte, hl]
      rfl
    · rw [show tightB 8 = 3 from rfl] at hl
      simp only [go_sem, ↓reduceIte, hl]
      rfl
    · rw [show tightB 9 = 2 from rfl] at hl
      simp only [go_sem, ↓reduceIte, hl]
      rfl
    · rw [show tightB 10 = 1 from rfl] at hl
      simp only [go_sem, ↓reduceIte, hl]
      rfl
end Go.Eng
