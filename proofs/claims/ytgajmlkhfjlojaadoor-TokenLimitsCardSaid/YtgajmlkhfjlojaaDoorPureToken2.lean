/-
  All tokens of a text: the program's function and the reference's tell the same; the examples.
-/
import Derived.Test.YtgajmlkhfjlojaaDoorPureToken
import Derived.Test.YtgajmlkhfjlojaaDoorPrint3
import Derived.Test.YtgajmlkhfjlojaaDoorPrint4
import Derived.Test.YtgajmlkhfjlojaaDoorPrint6
import Derived.Test.YtgajmlkhfjlojaaDoorPrint7
namespace Go.Proofs.YtgajmlkhfjlojaaDoor.Pure
set_option linter.unusedVariables false
set_option linter.unusedSimpArgs false
open Go.RowKit Go.Proofs.YtgajmlkhfjlojaaDoor.Print Go.Proofs.YtgajmlkhfjlojaaDoor.Spec Go.Proofs.YtgajmlkhfjlojaaDoor.Aux Go.Proofs.YtgajmlkhfjlojaaDoorW.PrintWords Go.Proofs.YtgajmlkhfjlojaaDoorW.PrintLast Go.Proofs.YtgajmlkhfjlojaaDoorW.PrintMore

theorem runL_cons (p : Int → Bool) (c : UInt8) (l : List UInt8) : runL p (c :: l) = if p (b2i c) = true then runL p l + 1 else 0 := by
  unfold runL
  rw [List.takeWhile_cons]
  split <;> rfl
/-- What the reference goes on over. -/
def refP (c0 c : Int) : Bool := digitI c || (letterI c0 && (letterI c || decide (c = 39)))
theorem refP_letter (c0 : Int) (h : letterI c0 = true) : refP c0 = innerI := by
  funext c
  unfold refP innerI
  rw [h]
  cases digitI c <;> cases letterI c <;> simp
theorem refP_digit (c0 : Int) (h : letterI c0 = false) : refP c0 = digitI := by
  funext c
  unfold refP
  rw [h]
  simp
theorem one_loop (s : ByteArray) (hs : s.size ≤ maxLen) (i : Nat) (hi : i < s.size) (V : Int × ByteArray × Int × Int) : ∀ (d e : Nat), e + d = s.size →
    Ev (fun k => sequiturref03_one.j1 k s i ((e + runL (refP (bt s i)) (s.data.toList.drop e) : Nat) : Int)) V → Ev (fun k => sequiturref03_one.l0 k s i e) V
  | 0, e, h, hV => by
    have hz := size_list s
    refine Ev.step (fun k => ?_) hV
    simp only [sequiturref03_one.l0]
    rw [if_neg (by omega), List.drop_eq_nil_of_le (by omega)]
    simp [runL]
  | d + 1, e, h, hV => by
    have hs2 := hs
    unfold maxLen at hs2
    obtain ⟨c, hc, hb⟩ := bt_drop s e (by omega)
    have ih := one_loop s hs i hi V d (e + 1) (by omega)
    rw [hc, runL_cons] at hV
    by_cases hp : refP (bt s i) (b2i c) = true
    · rw [if_pos hp, show e + (runL (refP (bt s i)) (s.data.toList.drop (e + 1)) + 1) = e + 1 + runL (refP (bt s i)) (s.data.toList.drop (e + 1)) by omega] at hV
      refine Ev.step (f := fun k => sequiturref03_one.l0 k s i ((e + 1 : Nat) : Int)) (fun k => ?_) (ih hV)
      simp only [sequiturref03_one.l0]
      rw [if_pos (by omega), if_pos (by omega), hb, wrap_succ e (by omega)]
      simp only [refDigit_f, refLetter_f, Option.bind_some]
      unfold refP at hp
      by_cases h1 : digitI (b2i c) = true
      · rw [if_pos h1]
      · rw [if_neg h1, if_pos (by omega), if_pos (by omega)]
        simp only [show digitI (b2i c) = false by simpa using h1, Bool.false_or, Bool.and_eq_true, Bool.or_eq_true, decide_eq_true_eq] at hp
        rw [if_pos hp.1]
        by_cases h2 : letterI (b2i c) = true
        · rw [if_pos h2]
        · rw [if_neg h2, if_pos (hp.2.resolve_left h2)]
    · rw [if_neg hp, Nat.add_zero] at hV
      refine Ev.step (f := fun k => sequiturref03_one.j1 k s i e) (fun k => ?_) hV
      simp only [sequiturref03_one.l0]
      rw [if_pos (by omega), if_pos (by omega), hb]
      simp only [refDigit_f, refLetter_f, Option.bind_some]
      unfold refP at hp
      simp only [Bool.or_eq_true, Bool.and_eq_true, decide_eq_true_eq, not_or, not_and] at hp
      rw [if_neg hp.1, if_pos (by omega), if_pos (by omega)]
      by_cases h3 : letterI (bt s i) = true
      · rw [if_pos h3, if_neg (hp.2 h3).1, if_neg (hp.2 h3).2]
      · rw [if_neg h3]
theorem one_ev (s : ByteArray) (hs0 : s.size ≤ 1000000) (i : Nat) (hi : i < s.size) : Ev (fun k => sequiturref03_one.f k s i) (tokS (bt s i) (s.data.toList.drop i) i) := by
  have hs : s.size ≤ maxLen := by unfold maxLen; omega
  have hs2 := hs0
  have hz := size_list s
  refine one_loop s hs i hi _ (s.size - i) i (by omega) ?_
  obtain ⟨K1, e1⟩ := refSign_ev s hs0 i (by omega)
  replace e1 : ∀ k, K1 ≤ k → sequiturref03_sign.f k s i = some (signS (s.data.toList.drop i)) := e1
  refine ⟨K1 + 3, fun k hk => ?_⟩
  obtain ⟨k, rfl⟩ : ∃ n, k = n + 3 := ⟨k - 3, by omega⟩
  obtain ⟨c, hc, hb⟩ := bt_drop s i hi
  have hle : i + runL (refP (bt s i)) (s.data.toList.drop i) ≤ s.size := by
    have hle := runL_le (refP (bt s i)) (s.data.toList.drop i)
    rw [List.length_drop] at hle
    omega
  show sequiturref03_one.j1 (k + 1 + 1 + 1) s i _ = _
  rw [sequiturref03_one.j1, if_pos (by omega), if_pos (by omega), if_pos (by omega), if_pos (by omega), refLetter_f, Option.bind_some, Int.toNat_natCast, Int.toNat_natCast, extract_take]
  unfold tokS
  replace e1 : ∀ k', K1 ≤ k' → sequiturref03_sign.f k' s i = some (signS (s.data.toList.drop i)) := e1
  generalize signS (s.data.toList.drop i) = x at e1 ⊢
  by_cases hL : letterI (bt s i) = true
  · rw [if_pos hL, if_pos hL, refP_letter _ hL]
    clear hle
    have hn : 1 ≤ runL innerI (s.data.toList.drop i) := by
      rw [hc, runL_cons, ← hb, if_pos (by simp [innerI, hL])]; omega
    have hle2 := runL_le innerI (s.data.toList.drop i)
    rw [List.length_drop] at hle2
    generalize runL innerI (s.data.toList.drop i) = n at hn hle2 ⊢
    have hlen : ((s.data.toList.drop i).take n).length = n := by rw [List.length_take, List.length_drop]; omega
    generalize (s.data.toList.drop i).take n = t at hlen ⊢
    rw [sequiturref03_one.j2, if_neg (by omega), sequiturref03_one.j3, if_neg (by rw [ba_lit]; intro h; have := congrArg (fun b => b.data.toList.length) h; simp at this; subst this; simp at hlen; omega), if_pos rfl]
    have hsz : ((⟨t.toArray⟩ : ByteArray).size : Int) = n := by rw [show (⟨t.toArray⟩ : ByteArray).size = t.length by simp [ByteArray.size], hlen]
    rw [hsz]
    by_cases h32 : n > 32
    · rw [if_pos h32, if_pos (by omega)]
    · rw [if_neg h32, if_neg (by omega)]
  · have hL' : letterI (bt s i) = false := by simpa using hL
    rw [if_neg hL, if_neg hL, refP_digit _ hL']
    clear hle
    by_cases hD : digitI (bt s i) = true
    · rw [if_pos hD]
      have hn : 1 ≤ runL digitI (s.data.toList.drop i) := by
        rw [hc, runL_cons, ← hb, if_pos hD]; omega
      have hle2 := runL_le digitI (s.data.toList.drop i)
      rw [List.length_drop] at hle2
      generalize runL digitI (s.data.toList.drop i) = n at hn hle2 ⊢
      have hlen : ((s.data.toList.drop i).take n).length = n := by rw [List.length_take, List.length_drop]; omega
      generalize (s.data.toList.drop i).take n = t at hlen ⊢
      rw [sequiturref03_one.j2, if_neg (by omega), sequiturref03_one.j3, if_neg (by rw [ba_lit]; intro h; have := congrArg (fun b => b.data.toList.length) h; simp at this; subst this; simp at hlen; omega), if_neg (by decide)]
    · rw [if_neg hD]
      have h0 : runL digitI (s.data.toList.drop i) = 0 := by rw [hc, runL_cons, ← hb, if_neg hD]
      rw [h0, sequiturref03_one.j2, if_pos (by omega), e1 _ (by omega), Option.bind_some, sequiturref03_one.j3]
      by_cases e : x = (⟨#[]⟩ : ByteArray)
      · rw [if_pos e, if_pos ((ba_lit x []).2 e)]
      · rw [if_neg e, if_neg (fun h => e ((ba_lit x []).1 h)), if_neg (by decide)]

theorem signGo_at (l : List UInt8) : ∀ (xs : List ByteArray) (b : ByteArray), signGo l b xs = b ∨ (signGo l b xs ∈ xs ∧ atL l (signGo l b xs) = true)
  | [], b => .inl rfl
  | x :: xs, b => by
    rw [signGo]
    by_cases h : b.size < x.size ∧ atL l x = true
    · rw [if_pos h]
      rcases signGo_at l xs x with e | ⟨e1, e2⟩
      · rw [e]; exact .inr ⟨List.mem_cons_self, h.2⟩
      · exact .inr ⟨List.mem_cons_of_mem _ e1, e2⟩
    · rw [if_neg h]
      rcases signGo_at l xs b with e | ⟨e1, e2⟩
      · exact .inl e
      · exact .inr ⟨List.mem_cons_of_mem _ e1, e2⟩
theorem signS_at (l : List UInt8) (h : signS l ≠ (⟨#[]⟩ : ByteArray)) : signS l ∈ signsB ∧ atL l (signS l) = true := (signGo_at l signsB _).resolve_left h
theorem mk_size (l : List UInt8) : (⟨l.toArray⟩ : ByteArray).size = l.length := by simp [ByteArray.size]
/-- A token is a piece of the text, and no empty one. -/
theorem tokS_size (c : UInt8) (l : List UInt8) (p : Int) (h : (tokS (b2i c) (c :: l) p).2.2.2 = 0) :
    1 ≤ (tokS (b2i c) (c :: l) p).2.1.size ∧ (tokS (b2i c) (c :: l) p).2.1.size ≤ l.length + 1 ∧ (tokS (b2i c) (c :: l) p).2.1.data.toList = (c :: l).take (tokS (b2i c) (c :: l) p).2.1.size := by
  have hsg := signS_at (c :: l)
  unfold tokS at h ⊢
  generalize signS (c :: l) = x at hsg h ⊢
  by_cases hL : letterI (b2i c) = true
  · have hn : 1 ≤ runL innerI (c :: l) := by rw [runL_cons, if_pos (by simp [innerI, hL])]; omega
    have h1 := runL_le innerI (c :: l)
    rw [List.length_cons] at h1
    simp only [if_pos hL] at h ⊢
    generalize runL innerI (c :: l) = n at h1 hn h ⊢
    by_cases h32 : n > 32
    · rw [if_pos h32] at h; exact absurd h (by decide)
    · simp only [if_neg h32, mk_size, List.length_take, List.length_cons]
      refine ⟨by omega, by omega, ?_⟩
      rw [show min n (l.length + 1) = n by omega]
  · simp only [if_neg hL] at h ⊢
    by_cases hD : digitI (b2i c) = true
    · have hn : 1 ≤ runL digitI (c :: l) := by rw [runL_cons, if_pos hD]; omega
      have h2 := runL_le digitI (c :: l)
      rw [List.length_cons] at h2
      simp only [if_pos hD, mk_size, List.length_take, List.length_cons]
      generalize runL digitI (c :: l) = n at h2 hn ⊢
      refine ⟨by omega, by omega, ?_⟩
      rw [show min n (l.length + 1) = n by omega]
    · simp only [if_neg hD] at h ⊢
      by_cases e : x = (⟨#[]⟩ : ByteArray)
      · rw [if_pos e] at h; exact absurd h (by decide)
      · simp only [if_neg e] at h ⊢
        obtain ⟨h3, h4⟩ := hsg e
        have h5 : ∀ x ∈ signsB, 1 ≤ x.size := by decide
        unfold atL at h4
        rw [decide_eq_true_eq] at h4
        have h6 := congrArg List.length h4
        rw [List.length_take, size_list, List.length_cons] at h6
        exact ⟨h5 _ h3, by omega, h4.symm⟩

/-- All tokens of l, which stands at place p and begins with no blank, behind those told before. -/
def ofGo : Nat → List UInt8 → Nat → List S30 → List S30 × Int × Int
  | 0, _, _, acc => (acc, 0, 0)
  | _ + 1, [], _, acc => (acc, 0, 0)
  | n + 1, c :: l, p, acc =>
    if (tokS (b2i c) (c :: l) p).2.2.2 = 0 then
      ofGo n ((c :: l).drop ((tokS (b2i c) (c :: l) p).2.1.size + blankG false ((c :: l).drop (tokS (b2i c) (c :: l) p).2.1.size)))
        (p + ((tokS (b2i c) (c :: l) p).2.1.size + blankG false ((c :: l).drop (tokS (b2i c) (c :: l) p).2.1.size)))
        (acc ++ [⟨(tokS (b2i c) (c :: l) p).1, (tokS (b2i c) (c :: l) p).2.1, (tokS (b2i c) (c :: l) p).2.2.1⟩])
    else ([], p, (tokS (b2i c) (c :: l) p).2.2.2)
def ofS (s : ByteArray) : List S30 × Int × Int :=
  if s.size > 65536 then ([], 0, 2) else ofGo s.size (s.data.toList.drop (blankG false s.data.toList)) (blankG false s.data.toList) []
theorem of_loop (s : ByteArray) (hs : s.size ≤ 65536) : ∀ (n i : Nat) (acc : List S30), s.size - i ≤ n → i ≤ s.size → acc.length ≤ i → Ev (fun k => token_Of.l0 k s acc i) (ofGo n (s.data.toList.drop i) i acc)
  | 0, i, acc, h1, h2, h3 => by
    refine Ev.step (f := fun _ => some (acc, 0, 0)) (fun k => ?_) (Ev.now _)
    simp only [token_Of.l0]; rw [if_neg (by omega)]
  | n + 1, i, acc, h1, h2, h3 => by
    have hz := size_list s
    have hs3 : s.size ≤ maxLen := by unfold maxLen; omega
    by_cases hi : i < s.size
    · obtain ⟨c, hc, hb⟩ := bt_drop s i hi
      obtain ⟨K1, e1⟩ := next_ev s hs3 i hi
      replace e1 : ∀ k, K1 ≤ k → token_next.f k s i = some (tokS (b2i c) (c :: s.data.toList.drop (i + 1)) i) := by rw [← hb, ← hc]; exact e1
      have hlen : (s.data.toList.drop (i + 1)).length = s.size - i - 1 := by rw [List.length_drop]; omega
      have hsz := tokS_size c (s.data.toList.drop (i + 1)) i
      rw [hc, ofGo]
      generalize tokS (b2i c) (c :: s.data.toList.drop (i + 1)) i = r at e1 hsz ⊢
      rw [← hc] at hsz ⊢
      by_cases he : r.2.2.2 = 0
      · obtain ⟨z1, z2, z3⟩ := hsz he
        obtain ⟨K2, e2⟩ := blanks_ev s hs3 (i + r.2.1.size) (by omega)
        rw [← List.drop_drop] at e2
        have hbl := blankG_le ((s.data.toList.drop i).drop r.2.1.size) false
        rw [List.length_drop, List.length_drop] at hbl
        replace e2 : ∀ k, K2 ≤ k → token_blanks.f k s ((i + r.2.1.size : Nat) : Int) = some ((blankG false ((s.data.toList.drop i).drop r.2.1.size) : Nat) : Int) := e2
        generalize blankG false ((s.data.toList.drop i).drop r.2.1.size) = b at hbl e2 ⊢
        obtain ⟨K3, e3⟩ := of_loop s hs n (i + (r.2.1.size + b)) (acc ++ [⟨r.1, r.2.1, r.2.2.1⟩]) (by omega) (by omega) (by simp; omega)
        replace e3 : ∀ k, K3 ≤ k → token_Of.l0 k s (acc ++ [⟨r.1, r.2.1, r.2.2.1⟩]) ((i + (r.2.1.size + b) : Nat) : Int) = some _ := e3
        refine ⟨K1 + K2 + K3 + 1, fun k hk => ?_⟩
        obtain ⟨k, rfl⟩ : ∃ n, k = n + 1 := ⟨k - 1, by omega⟩
        show token_Of.l0 (k + 1) s acc i = _
        rw [token_Of.l0, if_pos (by omega), e1 k (by omega), Option.bind_some, if_pos he, if_pos (by omega), wrap_add _ _ (by omega), e2 k (by omega), Option.bind_some, wrap_add _ _ (by omega), Nat.add_assoc, e3 k (by omega), if_pos he, List.drop_drop]
      · refine ⟨K1 + 1, fun k hk => ?_⟩
        obtain ⟨k, rfl⟩ : ∃ n, k = n + 1 := ⟨k - 1, by omega⟩
        show token_Of.l0 (k + 1) s acc i = _
        rw [token_Of.l0, if_pos (by omega), e1 k (by omega), Option.bind_some, if_neg he, if_neg he]
    · rw [List.drop_eq_nil_of_le (by omega)]
      refine Ev.step (f := fun _ => some (acc, 0, 0)) (fun k => ?_) (Ev.now _)
      simp only [token_Of.l0]; rw [if_neg (by omega)]
theorem refOf_loop (s : ByteArray) (hs : s.size ≤ 65536) : ∀ (n i : Nat) (acc : List S30), s.size - i ≤ n → i ≤ s.size → acc.length ≤ i → Ev (fun k => sequiturref03_Of.l0 k s acc i) (ofGo n (s.data.toList.drop i) i acc)
  | 0, i, acc, h1, h2, h3 => by
    refine Ev.step (f := fun _ => some (acc, 0, 0)) (fun k => ?_) (Ev.now _)
    simp only [sequiturref03_Of.l0]; rw [if_neg (by omega)]
  | n + 1, i, acc, h1, h2, h3 => by
    have hz := size_list s
    have hs3 : s.size ≤ maxLen := by unfold maxLen; omega
    by_cases hi : i < s.size
    · obtain ⟨c, hc, hb⟩ := bt_drop s i hi
      obtain ⟨K1, e1⟩ := one_ev s (by omega) i hi
      replace e1 : ∀ k, K1 ≤ k → sequiturref03_one.f k s i = some (tokS (b2i c) (c :: s.data.toList.drop (i + 1)) i) := by rw [← hb, ← hc]; exact e1
      have hlen : (s.data.toList.drop (i + 1)).length = s.size - i - 1 := by rw [List.length_drop]; omega
      have hsz := tokS_size c (s.data.toList.drop (i + 1)) i
      rw [hc, ofGo]
      generalize tokS (b2i c) (c :: s.data.toList.drop (i + 1)) i = r at e1 hsz ⊢
      rw [← hc] at hsz ⊢
      by_cases he : r.2.2.2 = 0
      · obtain ⟨z1, z2, z3⟩ := hsz he
        obtain ⟨K2, e2⟩ := refBlank_ev s hs3 (i + r.2.1.size) (by omega)
        rw [← List.drop_drop] at e2
        have hbl := blankG_le ((s.data.toList.drop i).drop r.2.1.size) false
        rw [List.length_drop, List.length_drop] at hbl
        replace e2 : ∀ k, K2 ≤ k → sequiturref03_Blank.f k s ((i + r.2.1.size : Nat) : Int) = some ((i + r.2.1.size + blankG false ((s.data.toList.drop i).drop r.2.1.size) : Nat) : Int) := e2
        generalize blankG false ((s.data.toList.drop i).drop r.2.1.size) = b at hbl e2 ⊢
        obtain ⟨K3, e3⟩ := refOf_loop s hs n (i + (r.2.1.size + b)) (acc ++ [⟨r.1, r.2.1, r.2.2.1⟩]) (by omega) (by omega) (by simp; omega)
        replace e3 : ∀ k, K3 ≤ k → sequiturref03_Of.l0 k s (acc ++ [⟨r.1, r.2.1, r.2.2.1⟩]) ((i + (r.2.1.size + b) : Nat) : Int) = some _ := e3
        refine ⟨K1 + K2 + K3 + 1, fun k hk => ?_⟩
        obtain ⟨k, rfl⟩ : ∃ n, k = n + 1 := ⟨k - 1, by omega⟩
        show sequiturref03_Of.l0 (k + 1) s acc i = _
        rw [sequiturref03_Of.l0, if_pos (by omega), e1 k (by omega), Option.bind_some, if_pos he, if_pos (by omega), wrap_add _ _ (by omega), e2 k (by omega), Option.bind_some, Nat.add_assoc, e3 k (by omega), if_pos he, List.drop_drop]
      · refine ⟨K1 + 1, fun k hk => ?_⟩
        obtain ⟨k, rfl⟩ : ∃ n, k = n + 1 := ⟨k - 1, by omega⟩
        show sequiturref03_Of.l0 (k + 1) s acc i = _
        rw [sequiturref03_Of.l0, if_pos (by omega), e1 k (by omega), Option.bind_some, if_neg he, if_neg he]
    · rw [List.drop_eq_nil_of_le (by omega)]
      refine Ev.step (f := fun _ => some (acc, 0, 0)) (fun k => ?_) (Ev.now _)
      simp only [sequiturref03_Of.l0]; rw [if_neg (by omega)]
theorem of_ev (s : ByteArray) : Ev (fun k => token_Of.f k s) (ofS s) := by
  have hz := size_list s
  unfold token_Of.f ofS
  by_cases h : s.size > 65536
  · rw [if_pos h]; exact Ev.pos (by omega) (Ev.now _)
  · rw [if_neg h]
    have hb := blankG_le s.data.toList false
    refine Ev.neg (by omega) (Ev.bind (a := ((blankG false s.data.toList : Nat) : Int)) (blanks_ev s (by unfold maxLen; omega) 0 (by omega)) ?_)
    exact of_loop s (by omega) s.size _ [] (by omega) (by omega) (by simp)
theorem refOf_ev (s : ByteArray) : Ev (fun k => sequiturref03_Of.f k s) (ofS s) := by
  have hz := size_list s
  unfold sequiturref03_Of.f ofS
  by_cases h : s.size > 65536
  · rw [if_pos h]; exact Ev.pos (by omega) (Ev.now _)
  · rw [if_neg h]
    have hb := blankG_le s.data.toList false
    refine Ev.neg (by omega) (Ev.bind (a := ((blankG false s.data.toList : Nat) : Int)) (Ev.get (refBlank_ev s (by unfold maxLen; omega) 0 (by omega)) (by simp)) ?_)
    exact refOf_loop s (by omega) s.size _ [] (by omega) (by omega) (by simp)

/-! ### texts of tokens -/
def textS (l : List S30) : ByteArray := joinB (l.map (·.f1)) (⟨#[32]⟩ : ByteArray)
def textFits (l : List S30) : Prop := l.length ≤ 140737488355328 ∧ (Lib.join ((l.map (·.f1)).map (·.data.toList)) (⟨#[32]⟩ : ByteArray).data.toList).length ≤ 140737488355328
theorem rd30_at (l : List S30) (i : Nat) (h : i < l.length) : rd_T30 l (i : Int) = l[i] := by
  unfold rd_T30
  rw [Int.toNat_natCast, List.getD, List.getElem?_eq_getElem h]; rfl
theorem text_loop (l : List S30) (hl : l.length ≤ 1000000) (hf : textFits l) : ∀ (d i : Nat), i + d = l.length → Ev (fun k => token_Text.l0 k ((l.take i).map (·.f1)) l l.length i) (textS l)
  | 0, i, h => by
    refine Ev.step (f := fun _ => some (textS l)) (fun k => ?_) (Ev.now _)
    simp only [token_Text.l0]
    rw [if_neg (by omega), List.take_of_length_le (by omega)]
    unfold strings_Join.f
    rw [if_pos ⟨by rw [List.length_map]; exact hf.1, hf.2⟩]; rfl
  | d + 1, i, h => by
    have ih := text_loop l hl hf d (i + 1) (by omega)
    refine Ev.step (fun k => ?_) ih
    simp only [token_Text.l0]
    rw [if_pos (by omega), if_pos (by omega), if_pos (by omega), if_pos (by rw [List.length_map, List.length_take]; omega), wrap_succ i (by omega), rd30_at l i (by omega)]
    congr 1
    rw [List.take_succ_eq_append_getElem (by omega), List.map_append]; rfl
theorem text_ev (l : List S30) (hl : l.length ≤ 1000000) (hf : textFits l) : Ev (fun k => token_Text.f k l) (textS l) := text_loop l hl hf l.length 0 (by omega)

/-! ### lists of tokens that are the same; the examples -/
theorem tokens_loop (l : List S30) (hl : l.length ≤ 1000000) : ∀ (d i : Nat), i + d = l.length → Ev (fun k => sequiturbase_Tokens.l0 k l l i) true
  | 0, i, h => by
    refine Ev.step (f := fun _ => some true) (fun k => ?_) (Ev.now _)
    simp only [sequiturbase_Tokens.l0]; rw [if_neg (by omega)]
  | d + 1, i, h => by
    refine Ev.step (fun k => ?_) (tokens_loop l hl d (i + 1) (by omega))
    simp only [sequiturbase_Tokens.l0]
    rw [if_pos (by omega), if_pos (by omega), if_pos (by omega), if_neg (by simp), wrap_succ i (by omega)]
theorem tokens_ev (l : List S30) (hl : l.length ≤ 1000000) : Ev (fun k => sequiturbase_Tokens.f k l l) true := Ev.pos rfl (tokens_loop l hl l.length 0 (by omega))
deriving instance DecidableEq for S30
theorem alive_of1 : ofS (⟨#[102, 40, 120, 51, 44, 32, 48, 55, 41, 60, 45, 62, 35, 101, 110, 100]⟩ : ByteArray) = ([⟨1, ⟨#[102]⟩, 0⟩, ⟨3, ⟨#[40]⟩, 1⟩, ⟨1, ⟨#[120, 51]⟩, 2⟩, ⟨3, ⟨#[44]⟩, 4⟩, ⟨2, ⟨#[48, 55]⟩, 6⟩, ⟨3, ⟨#[41]⟩, 8⟩, ⟨3, ⟨#[60, 45, 62]⟩, 9⟩], 0, 0) := by decide +kernel
theorem alive_of2 : ofS (⟨#[97, 32, 36]⟩ : ByteArray) = ([], 2, 7) := by decide +kernel
def aliveL : List S30 := [⟨1, ⟨#[102]⟩, 0⟩, ⟨3, ⟨#[40]⟩, 1⟩, ⟨1, ⟨#[120, 51]⟩, 2⟩, ⟨3, ⟨#[44]⟩, 4⟩, ⟨2, ⟨#[48, 55]⟩, 6⟩, ⟨3, ⟨#[41]⟩, 8⟩, ⟨3, ⟨#[60, 45, 62]⟩, 9⟩]
theorem alive_fits : textFits aliveL := ⟨by decide, by decide +kernel⟩
theorem alive_text : (textS aliveL).toList = ([102, 32, 40, 32, 120, 51, 32, 44, 32, 48, 55, 32, 41, 32, 60, 45, 62] : List UInt8) := by rw [Lib.toList_data]; decide +kernel
theorem alive_ev : Ev (fun k => sequiturlaw03_alive.f k) true := by
  obtain ⟨K1, e1⟩ : ∃ K, ∀ k, K ≤ k → token_Of.f k (⟨#[102, 40, 120, 51, 44, 32, 48, 55, 41, 60, 45, 62, 35, 101, 110, 100]⟩ : ByteArray) = some (aliveL, 0, 0) := alive_of1 ▸ of_ev _
  obtain ⟨K2, e2⟩ : ∃ K, ∀ k, K ≤ k → token_Of.f k (⟨#[97, 32, 36]⟩ : ByteArray) = some ([], 2, 7) := alive_of2 ▸ of_ev _
  obtain ⟨K3, e3⟩ : ∃ K, ∀ k, K ≤ k → token_Text.f k aliveL = some (textS aliveL) := text_ev aliveL (by decide) alive_fits
  refine ⟨K1 + K2 + K3, fun k hk => ?_⟩
  show sequiturlaw03_alive.f k = some true
  rw [sequiturlaw03_alive.f, e1 k (by omega), Option.bind_some, e2 k (by omega), Option.bind_some]
  rw [if_pos rfl, if_pos rfl, if_pos rfl, if_pos (by decide), if_pos (by decide), e3 k (by omega), Option.bind_some, if_pos alive_text]
  first
  | exact if_pos (by decide +kernel)
  | exact if_pos (by simp [rd_T30, aliveL, Lib.toList_data])
end Go.Proofs.YtgajmlkhfjlojaaDoor.Pure
