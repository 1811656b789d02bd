-- own work: an evaluator of the program's code, and what it answers
import Derived.Test.YtapjanalameofaaDoorHA
/- The law of a declared function's text. -/
set_option maxRecDepth 100000
set_option linter.unusedVariables false
set_option linter.unusedSimpArgs false
namespace Go.Eng
open Go Go.Proofs
theorem empty_cat (a : ByteArray) : a ++ ByteArray.empty = a := by
  rw [← mkS_of a, show ByteArray.empty = mkS [] from rfl, mkS_append, List.append_nil]
def predB : ByteArray := ⟨#[112, 114, 101, 100, 32]⟩
def funB : ByteArray := ⟨#[102, 117, 110, 32]⟩
def commaB : ByteArray := ⟨#[44, 32]⟩
def colonB : ByteArray := ⟨#[58, 32]⟩
def arrowB : ByteArray := ⟨#[32, 45, 62, 32]⟩
/-- a declared function's text -/
def funTxt (f : Fu) : ByteArray :=
  if beqS f.res sBool = true then (if f.args.length = 0 then predB ++ f.nm else ((predB ++ f.nm) ++ colonB) ++ joinX f.args)
  else if f.args.length = 0 then ((funB ++ f.nm) ++ colonB) ++ f.res
  else ((((funB ++ f.nm) ++ colonB) ++ joinX f.args) ++ arrowB) ++ f.res
theorem sumX_short : ∀ l : List ByteArray, (∀ x ∈ l, x.size ≤ 100) → sumX l ≤ 104 * l.length
  | [], _ => by simp [sumX]
  | x :: r, h => by
    have := sumX_short r (fun y hy => h y (List.mem_cons_of_mem _ hy))
    have := h x List.mem_cons_self
    simp only [sumX, List.length_cons]; omega
theorem sumX_take : ∀ (l : List ByteArray) (i : Nat), sumX (l.take i) ≤ sumX l
  | [], i => by simp
  | x :: r, 0 => by simp [sumX]
  | x :: r, i + 1 => by
    have := sumX_take r i
    simp only [List.take_succ_cons, sumX]; omega
theorem joinX_take (l : List ByteArray) (i : Nat) (x : ByteArray) (h : l[i]? = some x) (hi : i ≠ 0) : joinX (l.take (i + 1)) = (joinX (l.take i) ++ ⟨#[44, 32]⟩) ++ x := by
  have hl := (List.getElem?_eq_some_iff.1 h).1
  rw [List.take_add_one, h]
  exact joinX_snoc x (fun e => by
    have := congrArg List.length e
    rw [List.length_take, List.length_nil] at this; omega)
structure Few (f : Fu) : Prop where
  n : f.args.length ≤ 20
  nm : f.nm.size ≤ 100
  so : f.res.size ≤ 100
  each : ∀ x ∈ f.args, x.size ≤ 100
set_option maxHeartbeats 4000000 in
theorem sfun_ev (f : Fu) (h : Few f) (ro : Nat) (m : Mem) : evL Tryd.prog An ro 27 [.c (encF f)] m = some (.c (.v (.string (funTxt f))), m) := by
  obtain ⟨h1, h2, h3, h4⟩ := h
  have hs := joinX_size f.args
  have hs2 := sumX_short _ h4
  have hj := fun ro m => join_ev f.args (by omega) (by omega) ro m
  refine evL_by (n := 56) (by kernel_rfl) rfl fn27 rfl rfl rfl rfl ?_
  have c1 : predB.size + f.nm.size ≤ 9223372036854775807 := by
    have : predB.size = 5 := rfl
    omega
  have c2 : funB.size + f.nm.size ≤ 9223372036854775807 := by
    have : funB.size = 4 := rfl
    omega
  have s1 : predB.size = 5 := rfl
  have s2 : funB.size = 4 := rfl
  have s3 : colonB.size = 2 := rfl
  have s4 : arrowB.size = 4 := rfl
  have c3 : predB.size + f.nm.size + colonB.size ≤ 9223372036854775807 := by omega
  have c4 : funB.size + f.nm.size + colonB.size ≤ 9223372036854775807 := by omega
  have c5 : predB.size + f.nm.size + colonB.size + (joinX f.args).size ≤ 9223372036854775807 := by omega
  have c6 : funB.size + f.nm.size + colonB.size + (joinX f.args).size ≤ 9223372036854775807 := by omega
  have c7 : funB.size + f.nm.size + colonB.size + f.res.size ≤ 9223372036854775807 := by omega
  have c8 : funB.size + f.nm.size + colonB.size + (joinX f.args).size + arrowB.size ≤ 9223372036854775807 := by omega
  have c9 : funB.size + f.nm.size + colonB.size + (joinX f.args).size + arrowB.size + f.res.size ≤ 9223372036854775807 := by omega
  have e1 : ({ data := #[112, 114, 101, 100, 32] } : ByteArray) = predB := rfl
  have e2 : ({ data := #[102, 117, 110, 32] } : ByteArray) = funB := rfl
  have e3 : ({ data := #[58, 32] } : ByteArray) = colonB := rfl
  have e4 : ({ data := #[32, 45, 62, 32] } : ByteArray) = arrowB := rfl
  unfold funTxt
  by_cases ha : f.args.length = 0
  · have hn : f.args = [] := List.eq_nil_of_length_eq_zero ha
    have d1 : ((f.args.length : Int) == 0) = true := by rw [ha]; rfl
    have d2 : beqS (joinX f.args) ByteArray.empty = true := by rw [hn]; exact beqS_self _
    have d3 : ((joinX f.args).toList == ByteArray.empty.toList) = true := d2
    cases hb : beqS f.res sBool with
    | true => simp only [go_sem, ↓reduceIte, hj, hb, d1, d2, d3, c1, e1, if_pos ha]
    | false => simp only [go_sem, ↓reduceIte, hj, hb, d1, d2, d3, c2, c4, c7, e2, e3, if_pos ha]
  · have d1 : ((f.args.length : Int) == 0) = false := by
      rw [beq_eq_false_iff_ne]; omega
    cases hb : beqS f.res sBool with
    | true => 
      cases hd : beqS (joinX f.args) ByteArray.empty with
      | true =>
        have d3 : ((joinX f.args).toList == ByteArray.empty.toList) = true := hd
        simp only [go_sem, ↓reduceIte, hj, hb, hd, d1, d3, c1, c3, c5, e1, e3, if_neg ha]
      | false =>
        have d3 : ((joinX f.args).toList == ByteArray.empty.toList) = false := hd
        simp only [go_sem, ↓reduceIte, hj, hb, hd, d1, d3, c1, c3, c5, e1, e3, if_neg ha]
    | false => simp only [go_sem, ↓reduceIte, hj, hb, d1, c2, c4, c6, c8, c9, e2, e3, e4, if_neg ha]
set_option maxHeartbeats 4000000 in
theorem rfun_ev (f : Fu) (h : Few f) (ro : Nat) (m : Mem) : evL Tryd.prog An ro 28 [.c (encF f)] m = some (.c (.v (.string (funTxt f))), m) := by
  obtain ⟨h1, h2, h3, h4⟩ := h
  have hs := joinX_size f.args
  have hs2 := sumX_short _ h4
  refine evL_by (n := 54) (by kernel_rfl) rfl fn28 rfl rfl rfl rfl ?_
  simp only [go_sem, ↓reduceIte]
  generalize hL : loopW _ _ = L
  obtain ⟨i, k1, hE, rfl⟩ := loopW_at hL (fun i : Nat => [(3, .c (.v (.string (joinX (f.args.take i))))), (4, .c (.v (.int .i64 i)))]) (fun _ => [] :: m) (fun i => i ≤ f.args.length) (fun i => i = f.args.length) (fun i => f.args.length - i) 0 rfl rfl (by omega) (by
    rintro i k1 hE
    obtain ⟨x, hx⟩ : ∃ x, f.args[i]? = some x := ⟨_, List.getElem?_eq_getElem (by omega)⟩
    have d1 : decide ((i : Int) < (f.args.length : Int)) = true := dec_t (by omega)
    have d3 : IntKind.i64.wrap ((i : Int) + 1) = ((i + 1 : Nat) : Int) := wrap64 (by omega) (by omega)
    have q1 := joinX_size (f.args.take i)
    have q2 := sumX_take f.args i
    have q3 := h4 x (List.mem_of_getElem? hx)
    refine ⟨i + 1, by omega, by omega, ?_⟩
    rw [round_go]
    by_cases h0 : i = 0
    · subst h0
      have d2 : decide (((0 : Nat) : Int) > 0) = false := dec_f (by omega)
      have d4 : joinX (f.args.take (0 + 1)) = ByteArray.empty ++ x := by
        rw [List.take_add_one, hx, cat_empty]; rfl
      have d6 : joinX [] = ByteArray.empty := rfl
      have d5 : ByteArray.empty.size + x.size ≤ 9223372036854775807 := by
        have : ByteArray.empty.size = 0 := rfl
        omega
      simp only [go_sem, ↓reduceIte, d1, d2, d3, d4, d5, d6, hx]
    · have d2 : decide ((i : Int) > 0) = true := dec_t (by omega)
      have d4 : joinX (f.args.take (i + 1)) = (joinX (f.args.take i) ++ commaB) ++ x := joinX_take _ _ _ hx h0
      have s5 : commaB.size = 2 := rfl
      have d5 : (joinX (f.args.take i)).size + commaB.size ≤ 9223372036854775807 := by omega
      have d6 : (joinX (f.args.take i)).size + commaB.size + x.size ≤ 9223372036854775807 := by omega
      have d7 : ({ data := #[44, 32] } : ByteArray) = commaB := rfl
      simp only [go_sem, ↓reduceIte, d1, d2, d3, d4, d5, d6, d7, hx])
  clear hL
  subst hE
  rw [loopW_go, List.take_length]
  have d1 : decide ((f.args.length : Int) < (f.args.length : Int)) = false := dec_f (by omega)
  have c1 : predB.size + f.nm.size ≤ 9223372036854775807 := by
    have : predB.size = 5 := rfl
    omega
  have c2 : funB.size + f.nm.size ≤ 9223372036854775807 := by
    have : funB.size = 4 := rfl
    omega
  have s1 : predB.size = 5 := rfl
  have s2 : funB.size = 4 := rfl
  have s3 : colonB.size = 2 := rfl
  have s4 : arrowB.size = 4 := rfl
  have c3 : predB.size + f.nm.size + colonB.size ≤ 9223372036854775807 := by omega
  have c4 : funB.size + f.nm.size + colonB.size ≤ 9223372036854775807 := by omega
  have c5 : predB.size + f.nm.size + colonB.size + (joinX f.args).size ≤ 9223372036854775807 := by omega
  have c7 : funB.size + f.nm.size + colonB.size + (joinX f.args).size ≤ 9223372036854775807 := by omega
  have c6 : (joinX f.args).size + arrowB.size ≤ 9223372036854775807 := by omega
  have c8 : funB.size + f.nm.size + colonB.size + ((joinX f.args).size + arrowB.size) ≤ 9223372036854775807 := by omega
  have c9 : funB.size + f.nm.size + colonB.size + ((joinX f.args).size + arrowB.size) + f.res.size ≤ 9223372036854775807 := by omega
  have c10 : funB.size + f.nm.size + colonB.size + (joinX f.args).size + f.res.size ≤ 9223372036854775807 := by omega
  have e1 : ({ data := #[112, 114, 101, 100, 32] } : ByteArray) = predB := rfl
  have e2 : ({ data := #[102, 117, 110, 32] } : ByteArray) = funB := rfl
  have e3 : ({ data := #[58, 32] } : ByteArray) = colonB := rfl
  have e4 : ({ data := #[32, 45, 62, 32] } : ByteArray) = arrowB := rfl
  unfold funTxt
  by_cases ha : f.args.length = 0
  · have hn : f.args = [] := List.eq_nil_of_length_eq_zero ha
    have d2 : ((f.args.length : Int) == 0) = true := by rw [ha]; rfl
    have d4 : decide ((f.args.length : Int) > 0) = false := dec_f (by omega)
    cases hb : beqS f.res sBool with
    | true => simp only [go_sem, ↓reduceIte, hb, d1, d2, c1, e1, if_pos ha]
    | false =>
      have e5 : ((funB ++ f.nm) ++ colonB) ++ f.res = (((funB ++ f.nm) ++ colonB) ++ joinX f.args) ++ f.res := by
        rw [hn, show joinX [] = ByteArray.empty from rfl, empty_cat]
      simp only [if_pos ha]
      rw [e5]
      simp only [go_sem, ↓reduceIte, hb, d1, d2, d4, c2, c4, c7, c10, e2, e3]
  · have d2 : ((f.args.length : Int) == 0) = false := by
      rw [beq_eq_false_iff_ne]; omega
    have d4 : decide ((f.args.length : Int) > 0) = true := dec_t (by omega)
    cases hb : beqS f.res sBool with
    | true => simp only [go_sem, ↓reduceIte, hb, d1, d2, c1, c3, c5, e1, e3, if_neg ha]
    | false =>
      have e5 : ((((funB ++ f.nm) ++ colonB) ++ joinX f.args) ++ arrowB) ++ f.res = (((funB ++ f.nm) ++ colonB) ++ (joinX f.args ++ arrowB)) ++ f.res := by
        rw [cat_assoc ((funB ++ f.nm) ++ colonB)]
      simp only [if_neg ha]
      rw [e5]
      simp only [go_sem, ↓reduceIte, hb, d1, d2, d4, c2, c4, c6, c8, c9, e2, e3, e4]
set_option maxHeartbeats 4000000 in
theorem showFuns_ev (f : Fu) (hf : okF f ∧ f.args.length ≤ 8796093022208) :
    evL Tryd.prog An 0 8 [.c (encF f)] [] = some (.c (.v (.bool true)), []) := by
  obtain ⟨_, hl⟩ := hf
  refine evL_by (n := 42) (by kernel_rfl) rfl fn8 rfl rfl rfl rfl ?_
  have ha := fun fr => alive_ev fr 0 (.inl rfl)
  have ha1 := fun fr => alive_ev fr 1 (.inr rfl)
  by_cases h1 : f.args.length ≤ 20
  case neg =>
    have c1 : decide ((f.args.length : Int) > 20) = true := dec_t (by omega)
    simp only [go_sem, ↓reduceIte, c1, ha]
  have c1 : decide ((f.args.length : Int) > 20) = false := dec_f (by omega)
  by_cases h2 : f.nm.size ≤ 100
  case neg =>
    have c2 : decide ((f.nm.size : Int) > 100) = true := dec_t (by omega)
    simp only [go_sem, ↓reduceIte, c1, c2, ha]
  have c2 : decide ((f.nm.size : Int) > 100) = false := dec_f (by omega)
  by_cases h3 : f.res.size ≤ 100
  case neg =>
    have c3 : decide ((f.res.size : Int) > 100) = true := dec_t (by omega)
    simp only [go_sem, ↓reduceIte, c1, c2, c3, ha]
  have c3 : decide ((f.res.size : Int) > 100) = false := dec_f (by omega)
  simp only [go_sem, ↓reduceIte, c1, c2, c3]
  generalize hL : loopW _ _ = L
  obtain ⟨i, k1, hE, rfl⟩ := loopW_at hL (fun i : Nat => [(25, .c (.v (.int .i64 i)))]) (fun _ => [[]]) (fun i => i ≤ f.args.length ∧ ∀ x ∈ f.args.take i, x.size ≤ 100) (fun i => i = f.args.length ∨ ∃ x, f.args[i]? = some x ∧ 100 < x.size) (fun i => f.args.length - i) 0 rfl rfl ⟨by omega, fun x hx => by simp at hx⟩ (by
    rintro i ⟨k1, k2⟩ hE
    simp only [not_or, not_exists, not_and, Nat.not_lt] at hE
    obtain ⟨e1, e2⟩ := hE
    obtain ⟨x, hx⟩ : ∃ x, f.args[i]? = some x := ⟨_, List.getElem?_eq_getElem (by omega)⟩
    have d1 : decide ((i : Int) < (f.args.length : Int)) = true := dec_t (by omega)
    have d2 : decide ((x.size : Int) > 100) = false := dec_f (by have := e2 x hx; omega)
    have d3 : IntKind.i64.wrap ((i : Int) + 1) = ((i + 1 : Nat) : Int) := wrap64 (by omega) (by omega)
    refine ⟨i + 1, ⟨by omega, fun y hy => ?_⟩, by omega, ?_⟩
    · rw [List.take_add_one, hx] at hy
      rcases List.mem_append.1 hy with hy | hy
      · exact k2 y hy
      · obtain rfl := List.mem_singleton.1 hy
        exact e2 _ hx
    rw [round_go]
    simp only [go_sem, ↓reduceIte, d1, d2, d3, hx])
  clear hL
  obtain ⟨k1, k2⟩ := k1
  rw [loopW_go]
  rcases hE with rfl | ⟨x, hx, h4⟩
  · rw [List.take_length] at k2
    have d1 : decide ((f.args.length : Int) < (f.args.length : Int)) = false := dec_f (by omega)
    have q1 := fun ro m => sfun_ev f ⟨h1, h2, h3, k2⟩ ro m
    have q2 := fun ro m => rfun_ev f ⟨h1, h2, h3, k2⟩ ro m
    have d3 : beqS (funTxt f) (funTxt f) = true := beqS_self _
    simp only [go_sem, ↓reduceIte, d1, d3, q1, q2, ha1]
  · have d1 : decide ((i : Int) < (f.args.length : Int)) = true := dec_t (by have := (List.getElem?_eq_some_iff.1 hx).1; omega)
    have d2 : decide ((x.size : Int) > 100) = true := dec_t (by omega)
    simp only [go_sem, ↓reduceIte, d1, d2, hx, ha]
end Go.Eng
