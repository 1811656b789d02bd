/-
  Proved: the tokens of the text of any text's tokens are the same, but for their places.
-/
import Derived.Test.YtgajmlkhfjlojaaDoorPureTokenTexts
import Derived.Test.YtgajmlkhfjlojaaDoorPureTokenOf
import Derived.Test.YtgajmlkhfjlojaaDoorPrint11
namespace Go.Proofs.YtgajmlkhfjlojaaDoor.Pure
set_option linter.unusedVariables false
set_option linter.unusedSimpArgs false
open Go.RowKit Go.Proofs.YtgajmlkhfjlojaaDoor.Print Go.Proofs.YtgajmlkhfjlojaaDoor.Spec Go.Proofs.YtgajmlkhfjlojaaDoor.Aux Go.Proofs.YtgajmlkhfjlojaaDoorW.PrintWords Go.Proofs.YtgajmlkhfjlojaaDoorW.PrintLast Go.Proofs.YtgajmlkhfjlojaaDoorW.PrintMore

/-- What may follow a token: nothing, or a blank. -/
def Behind (r : List UInt8) : Prop := r = [] ∨ ∃ r', r = 32 :: r'
theorem runL_all (p : Int → Bool) (h32 : p 32 = false) (r : List UInt8) (hr : Behind r) : ∀ t : List UInt8, (∀ x ∈ t, p (b2i x) = true) → runL p (t ++ r) = t.length
  | [], _ => by
    rcases hr with rfl | ⟨r', rfl⟩
    · rfl
    · rw [List.nil_append, runL_cons]
      have : b2i 32 = 32 := rfl
      rw [this, h32]; rfl
  | c :: t, h => by
    rw [List.cons_append, runL_cons, if_pos (h c List.mem_cons_self), runL_all p h32 r hr t (fun x hx => h x (List.mem_cons_of_mem _ hx)), List.length_cons]
theorem take_runL (p : Int → Bool) : ∀ l : List UInt8, ∀ x ∈ l.take (runL p l), p (b2i x) = true
  | [], x, hx => by simp at hx
  | c :: l, x, hx => by
    rw [runL_cons] at hx
    by_cases h : p (b2i c) = true
    · rw [if_pos h, List.take_succ_cons] at hx
      rcases List.mem_cons.1 hx with rfl | hx
      · exact h
      · exact take_runL p l x hx
    · rw [if_neg h] at hx; simp at hx
theorem blank_letter (c : UInt8) (l : List UInt8) (h : letterI (b2i c) = true ∨ digitI (b2i c) = true) : blankG false (c :: l) = 0 := by
  have h1 : b2i c ≠ 35 ∧ ¬ blankI (b2i c) = true := by
    rw [blankI_iff]
    generalize b2i c = c at h
    simp only [letterI, digitI, Bool.or_eq_true, Bool.and_eq_true, decide_eq_true_eq] at h
    constructor <;> omega
  rw [blankG, if_neg h1.1, if_neg (by simp), if_neg h1.2]
theorem atL_behind (t r : List UInt8) (x : ByteArray) (hx : (32 : UInt8) ∉ x.data.toList) : atL (t ++ 32 :: r) x = atL (t ++ [32]) x := by
  have hz := size_list x
  unfold atL
  by_cases h : x.size ≤ t.length + 1
  · rw [show t ++ 32 :: r = (t ++ [32]) ++ r by simp, List.take_append_of_le_length (by simp; omega)]
  · have e1 : ¬ (t ++ 32 :: r).take x.size = x.data.toList := by
      intro he
      apply hx
      rw [← he]
      rw [List.take_append]
      refine List.mem_append_right _ ?_
      obtain ⟨n, hn⟩ : ∃ n, x.size - t.length = n + 1 := ⟨x.size - t.length - 1, by omega⟩
      rw [hn, List.take_succ_cons]
      exact List.mem_cons_self
    have e2 : ¬ (t ++ [32]).take x.size = x.data.toList := by
      intro he
      have := congrArg List.length he
      rw [List.length_take] at this
      simp at this; omega
    rw [decide_eq_false e1, decide_eq_false e2]
theorem signGo_behind (t r : List UInt8) : ∀ (xs : List ByteArray) (b : ByteArray), (∀ x ∈ xs, (32 : UInt8) ∉ x.data.toList) → signGo (t ++ 32 :: r) b xs = signGo (t ++ [32]) b xs
  | [], b, _ => rfl
  | x :: xs, b, h => by
    rw [signGo, signGo, atL_behind t r x (h x List.mem_cons_self)]
    exact signGo_behind t r xs _ (fun y hy => h y (List.mem_cons_of_mem _ hy))
theorem signs_no32 : ∀ x ∈ signsB, (32 : UInt8) ∉ x.data.toList := by decide +kernel
theorem signs_self : ∀ x ∈ signsB, signS (x.data.toList ++ [32]) = x ∧ signS x.data.toList = x := by decide +kernel
def headB (x : ByteArray) : Int := match x.data.toList with
  | [] => 35
  | c :: _ => b2i c
theorem signs_head : ∀ x ∈ signsB, (letterI (headB x) = false ∧ digitI (headB x) = false) ∧ headB x ≠ 35 ∧ blankI (headB x) = false := by decide +kernel
theorem signS_behind (x : ByteArray) (hx : x ∈ signsB) (r : List UInt8) (hr : Behind r) : signS (x.data.toList ++ r) = x := by
  rcases hr with rfl | ⟨r', rfl⟩
  · rw [List.append_nil]; exact (signs_self x hx).2
  · unfold signS
    rw [signGo_behind _ _ _ _ signs_no32]
    exact (signs_self x hx).1

/-- A token that is told again wherever it stands, if a blank or nothing follows. -/
def Canon (x : S30) : Prop := ∃ c t, x.f1.data.toList = c :: t ∧ ∀ r, Behind r → (∀ q, tokS (b2i c) (c :: t ++ r) q = (x.f0, x.f1, q, 0)) ∧ blankG false (c :: t ++ r) = 0
theorem tokS_canon (c : UInt8) (l : List UInt8) (p : Int) (h : (tokS (b2i c) (c :: l) p).2.2.2 = 0) :
    Canon ⟨(tokS (b2i c) (c :: l) p).1, (tokS (b2i c) (c :: l) p).2.1, (tokS (b2i c) (c :: l) p).2.2.1⟩ := by
  have hsg := signS_at (c :: l)
  unfold tokS at h ⊢
  generalize signS (c :: l) = x at hsg h ⊢
  by_cases hL : letterI (b2i c) = true
  · simp only [if_pos hL] at h ⊢
    have hall := take_runL innerI (c :: l)
    have hn : 1 ≤ runL innerI (c :: l) := by rw [runL_cons, if_pos (by simp [innerI, hL])]; omega
    have hle := runL_le innerI (c :: l)
    rw [List.length_cons] at hle
    generalize runL innerI (c :: l) = n at hn h hall hle ⊢
    by_cases h32 : n > 32
    · rw [if_pos h32] at h; exact absurd h (by decide)
    · simp only [if_neg h32]
      obtain ⟨m, rfl⟩ : ∃ m, n = m + 1 := ⟨n - 1, by omega⟩
      rw [List.take_succ_cons] at hall
      refine ⟨c, l.take m, by simp [List.take_succ_cons], fun r hr => ⟨fun q => ?_, blank_letter c _ (.inl hL)⟩⟩
      have hrun := runL_all innerI (by decide) r hr (c :: l.take m) hall
      have hlen : (c :: l.take m).length = m + 1 := by rw [List.length_cons, List.length_take]; omega
      unfold tokS
      rw [if_pos hL, hrun, hlen, if_neg h32, List.take_append_of_le_length (by omega), List.take_of_length_le (by omega), List.take_succ_cons]
  · simp only [if_neg hL] at h ⊢
    by_cases hD : digitI (b2i c) = true
    · simp only [if_pos hD] at h ⊢
      have hall := take_runL digitI (c :: l)
      have hn : 1 ≤ runL digitI (c :: l) := by rw [runL_cons, if_pos hD]; omega
      have hle := runL_le digitI (c :: l)
      rw [List.length_cons] at hle
      generalize runL digitI (c :: l) = n at hn h hall hle ⊢
      obtain ⟨m, rfl⟩ : ∃ m, n = m + 1 := ⟨n - 1, by omega⟩
      rw [List.take_succ_cons] at hall
      refine ⟨c, l.take m, by simp [List.take_succ_cons], fun r hr => ⟨fun q => ?_, blank_letter c _ (.inr hD)⟩⟩
      have hrun := runL_all digitI (by decide) r hr (c :: l.take m) hall
      have hlen : (c :: l.take m).length = m + 1 := by rw [List.length_cons, List.length_take]; omega
      unfold tokS
      rw [if_neg hL, if_pos hD, hrun, hlen, List.take_append_of_le_length (by omega), List.take_of_length_le (by omega), List.take_succ_cons]
    · simp only [if_neg hD] at h ⊢
      by_cases e : x = (⟨#[]⟩ : ByteArray)
      · rw [if_pos e] at h; exact absurd h (by decide)
      · simp only [if_neg e] at h ⊢
        obtain ⟨h3, h4⟩ := hsg e
        obtain ⟨⟨n1, n2⟩, n3, n4⟩ := signs_head x h3
        obtain ⟨c', t, hct⟩ : ∃ c' t, x.data.toList = c' :: t := by
          have h5 : ∀ x ∈ signsB, 1 ≤ x.size := by decide
          refine List.exists_cons_of_length_pos ?_
          rw [size_list]; exact h5 x h3
        have hhd : headB x = b2i c' := by unfold headB; rw [hct]
        rw [hhd] at n1 n2 n3 n4
        refine ⟨c', t, hct, fun r hr => ⟨fun q => ?_, ?_⟩⟩
        · have hs := signS_behind x h3 r hr
          rw [hct] at hs
          unfold tokS
          rw [n1, n2, hs, if_neg (by decide), if_neg (by decide), if_neg e]
        · rw [List.cons_append, blankG, if_neg n3, if_neg (by simp), n4, if_neg (by decide)]
theorem ofGo_canon : ∀ (n : Nat) (l : List UInt8) (p : Nat) (acc : List S30), (∀ x ∈ acc, Canon x) → ∀ x ∈ (ofGo n l p acc).1, Canon x
  | 0, l, p, acc, h => by simpa [ofGo] using h
  | n + 1, [], p, acc, h => by simpa [ofGo] using h
  | n + 1, c :: l, p, acc, h => by
    rw [ofGo]
    by_cases e : (tokS (b2i c) (c :: l) p).2.2.2 = 0
    · rw [if_pos e]
      refine ofGo_canon n _ _ _ ?_
      intro x hx
      rcases List.mem_append.1 hx with hx | hx
      · exact h x hx
      · rw [List.mem_singleton.1 hx]; exact tokS_canon c l p e
    · rw [if_neg e]; simp
/-- Tokens with their texts' sum: never longer than the text. -/
def sumS (l : List S30) : Nat := (l.map fun x => x.f1.size).sum
theorem ofGo_sum : ∀ (n : Nat) (l : List UInt8) (p : Nat) (acc : List S30), sumS (ofGo n l p acc).1 ≤ sumS acc + l.length ∧ (ofGo n l p acc).1.length ≤ acc.length + l.length
  | 0, l, p, acc => by simp [ofGo]
  | n + 1, [], p, acc => by simp [ofGo]
  | n + 1, c :: l, p, acc => by
    have hsz := tokS_size c l p
    rw [ofGo]
    generalize tokS (b2i c) (c :: l) p = r at hsz ⊢
    by_cases e : r.2.2.2 = 0
    · rw [if_pos e]
      obtain ⟨z1, z2, z3⟩ := hsz e
      generalize blankG false ((c :: l).drop r.2.1.size) = b
      obtain ⟨h1, h2⟩ := ofGo_sum n ((c :: l).drop (r.2.1.size + b)) (p + (r.2.1.size + b)) (acc ++ [⟨r.1, r.2.1, r.2.2.1⟩])
      rw [List.length_drop, List.length_cons] at h1 h2
      have h3 : sumS (acc ++ [⟨r.1, r.2.1, r.2.2.1⟩]) = sumS acc + r.2.1.size := by simp [sumS]
      rw [h3] at h1
      rw [List.length_append, List.length_singleton] at h2
      rw [List.length_cons]
      constructor <;> omega
    · rw [if_neg e]; simp [sumS]
theorem ofGo_err : ∀ (n : Nat) (l : List UInt8) (p : Nat) (acc : List S30), (ofGo n l p acc).2.2 ≠ 0 → (ofGo n l p acc).1 = []
  | 0, l, p, acc, h => absurd rfl h
  | n + 1, [], p, acc, h => absurd rfl h
  | n + 1, c :: l, p, acc, h => by
    rw [ofGo] at h ⊢
    by_cases e : (tokS (b2i c) (c :: l) p).2.2.2 = 0
    · rw [if_pos e] at h ⊢; exact ofGo_err n _ _ _ h
    · rw [if_neg e]
def listOf (x : S30) : List UInt8 := x.f1.data.toList
theorem tail_behind : ∀ rest : List S30, Behind (Lib.joinTail [32] (rest.map listOf))
  | [] => .inl rfl
  | y :: ys => .inr ⟨listOf y ++ Lib.joinTail [32] (ys.map listOf), by simp [Lib.joinTail]⟩
theorem again_go : ∀ (rest : List S30) (x : S30) (n p : Nat) (acc : List S30), (∀ y ∈ x :: rest, Canon y) → rest.length + 1 ≤ n →
    ∃ M, ofGo n (listOf x ++ Lib.joinTail [32] (rest.map listOf)) p acc = (acc ++ M, 0, 0) ∧ M.map (fun y => (y.f0, y.f1)) = (x :: rest).map (fun y => (y.f0, y.f1))
  | rest, x, 0, p, acc, _, hn => absurd hn (by omega)
  | rest, x, n + 1, p, acc, hc, hn => by
    obtain ⟨c, t, hct, hcan⟩ := hc x List.mem_cons_self
    obtain ⟨h1, h2⟩ := hcan _ (tail_behind rest)
    have hsz : x.f1.size = (c :: t).length := by rw [← size_list, hct]
    rw [show listOf x = c :: t from hct]
    have e1 : c :: t ++ Lib.joinTail [32] (rest.map listOf) = c :: (t ++ Lib.joinTail [32] (rest.map listOf)) := rfl
    have h1' := h1 p
    rw [e1] at h1'
    show ∃ M, ofGo (n + 1) (c :: (t ++ Lib.joinTail [32] (rest.map listOf))) p acc = _ ∧ _
    rw [ofGo, h1', if_pos rfl]
    dsimp only
    rw [hsz, ← e1, List.drop_left' rfl, ← List.drop_drop, List.drop_left' rfl]
    cases rest with
    | nil =>
      refine ⟨[⟨x.f0, x.f1, p⟩], ?_, rfl⟩
      cases n <;> simp [Lib.joinTail, ofGo, blankG]
    | cons y ys =>
      obtain ⟨c', t', hct', hcan'⟩ := hc y (List.mem_cons_of_mem _ List.mem_cons_self)
      have hb := (hcan' _ (tail_behind ys)).2
      have e2 : Lib.joinTail [32] ((y :: ys).map listOf) = 32 :: (listOf y ++ Lib.joinTail [32] (ys.map listOf)) := by simp [Lib.joinTail]
      have e3 : blankG false (32 :: (listOf y ++ Lib.joinTail [32] (ys.map listOf))) = 1 := by
        rw [show listOf y = c' :: t' from hct', blankG, if_neg (by decide), if_neg (by simp), if_pos (by decide), hb]
      rw [e2, e3, List.drop_succ_cons, List.drop_zero]
      obtain ⟨M, hM, hmap⟩ := again_go ys y n (p + ((c :: t).length + 1)) (acc ++ [⟨x.f0, x.f1, p⟩]) (fun z hz => hc z (List.mem_cons_of_mem _ hz)) (by simp at hn; omega)
      refine ⟨⟨x.f0, x.f1, p⟩ :: M, ?_, ?_⟩
      · rw [hM]; simp
      · rw [List.map_cons, hmap]; rfl
theorem lens_sum (l : List S30) : Lib.lens (l.map listOf) = sumS l := by
  unfold Lib.lens sumS listOf
  first
  | (rw [List.map_map]; done)
  | (rw [List.map_map]; exact congrArg List.sum (List.map_congr_left fun x _ => size_list x.f1))
/-- The tokens of the tokens' text. -/
theorem ofS_textS (l : List S30) (hc : ∀ x ∈ l, Canon x) (h1 : sumS l ≤ 10000) (h2 : l.length ≤ 10000) :
    ∃ M, ofS (textS l) = (M, 0, 0) ∧ M.map (fun y => (y.f0, y.f1)) = l.map (fun y => (y.f0, y.f1)) := by
  cases l with
  | nil => exact ⟨[], by decide +kernel, rfl⟩
  | cons x rest =>
    have hl : (textS (x :: rest)).data.toList = listOf x ++ Lib.joinTail [32] (rest.map listOf) := by
      rw [textS_list, List.map_map]
      show Lib.join (listOf x :: rest.map listOf) [32] = _
      rw [Lib.join_cons]
    have hz := size_list (textS (x :: rest))
    have hlen : (textS (x :: rest)).size = rest.length + sumS (x :: rest) := by
      rw [← lens_sum, ← hz, textS_list, List.map_map]
      show (Lib.join (listOf x :: rest.map listOf) [32]).length = _
      rw [Lib.join_length]; simp
    obtain ⟨c, t, hct, hcan⟩ := hc x List.mem_cons_self
    have hb := (hcan _ (tail_behind rest)).2
    have hx : 1 ≤ sumS (x :: rest) := by
      have : x.f1.size = t.length + 1 := by rw [← size_list, hct]; rfl
      simp [sumS]; omega
    rw [List.length_cons] at h2
    obtain ⟨M, hM, hmap⟩ := again_go rest x (textS (x :: rest)).size 0 [] hc (by omega)
    refine ⟨M, ?_, hmap⟩
    unfold ofS
    have hb' : blankG false (listOf x ++ Lib.joinTail [32] (rest.map listOf)) = 0 := by rw [show listOf x = c :: t from hct]; exact hb
    rw [if_neg (by omega), hl, hb', List.drop_zero, hM]; rfl
theorem again_loop (l m : List S30) (hl : l.length ≤ 10000) (hm : m.map (fun y => (y.f0, y.f1)) = l.map (fun y => (y.f0, y.f1))) (hf : textFits l) (hg : textFits m) : ∀ (d i : Nat), i + d = l.length →
    Ev (fun k => sequiturlaw03_TokenAgain.l0 k l m l.length i) true
  | 0, i, h => by
    have hlen : m.length = l.length := by have := congrArg List.length hm; simpa using this
    obtain ⟨K1, e1⟩ : ∃ K, ∀ k, K ≤ k → token_Text.f k l = some (textS l) := text_ev l (by omega) hf
    obtain ⟨K2, e2⟩ : ∃ K, ∀ k, K ≤ k → token_Text.f k m = some (textS m) := text_ev m (by omega) hg
    have he : textS m = textS l := by
      have := congrArg (List.map Prod.snd) hm
      rw [List.map_map, List.map_map] at this
      unfold textS
      exact congrArg (fun z => joinB z (⟨#[32]⟩ : ByteArray)) this
    refine ⟨K1 + K2 + 1, fun k hk => ?_⟩
    obtain ⟨k, rfl⟩ : ∃ n, k = n + 1 := ⟨k - 1, by omega⟩
    show sequiturlaw03_TokenAgain.l0 (k + 1) l m l.length i = some true
    rw [sequiturlaw03_TokenAgain.l0, if_neg (by omega), e1 k (by omega), Option.bind_some, e2 k (by omega), Option.bind_some, he]
    simp
  | d + 1, i, h => by
    have hlen : m.length = l.length := by have := congrArg List.length hm; simpa using this
    have hi : (m[i]'(by omega)).f0 = l[i].f0 ∧ (m[i]'(by omega)).f1 = l[i].f1 := by
      have h3 := congrArg (fun z => z[i]?) hm
      simp only [List.getElem?_map, List.getElem?_eq_getElem (show i < m.length by omega), List.getElem?_eq_getElem (show i < l.length by omega), Option.map_some, Option.some.injEq, Prod.mk.injEq] at h3
      exact h3
    refine Ev.step (fun k => ?_) (again_loop l m hl hm hf hg d (i + 1) (by omega))
    simp only [sequiturlaw03_TokenAgain.l0]
    rw [if_pos (by omega), if_pos (by omega), if_pos (by omega), if_pos (by omega), rd30_at l i (by omega), rd30_at m i (by omega), hi.1, hi.2, if_pos rfl, if_pos rfl, wrap_succ i (by omega)]
theorem fits_of (l : List S30) (h1 : sumS l ≤ 10000) (h2 : l.length ≤ 10000) : textFits l := by
  refine ⟨by omega, ?_⟩
  have : (⟨#[32]⟩ : ByteArray).data.toList = [32] := rfl
  rw [this]
  rw [List.map_map]
  show (Lib.join (l.map listOf) [32]).length ≤ _
  cases l with
  | nil => simp [Lib.join_nil]
  | cons x rest =>
    rw [List.map_cons, Lib.join_length, ← List.map_cons, lens_sum]
    simp at h2 ⊢; omega
theorem TokenAgain : sequiturlaw03_TokenAgain.Pure := by
  rintro s hs
  refine Ev.rounds (g := fun k => sequiturlaw03_TokenAgain.f k s) ?_
  have hz := size_list s
  obtain ⟨K1, e1⟩ : ∃ K, ∀ k, K ≤ k → sequiturlaw03_alive.f k = some true := alive_ev
  obtain ⟨K2, e2⟩ : ∃ K, ∀ k, K ≤ k → token_Of.f k s = some (ofS s) := of_ev s
  by_cases h : (s.size : Int) > 600
  · refine ⟨K1, fun k hk => ?_⟩
    show sequiturlaw03_TokenAgain.f k s = some true
    rw [sequiturlaw03_TokenAgain.f, e1 k (by omega), Option.bind_some, if_pos rfl, if_pos h]
  · have ho : ofS s = ofGo s.size (s.data.toList.drop (blankG false s.data.toList)) (blankG false s.data.toList) [] := by
      unfold ofS; rw [if_neg (by omega)]
    have hcan := ofGo_canon s.size (s.data.toList.drop (blankG false s.data.toList)) (blankG false s.data.toList) [] (by simp)
    have hsum := ofGo_sum s.size (s.data.toList.drop (blankG false s.data.toList)) (blankG false s.data.toList) []
    have herr := ofGo_err s.size (s.data.toList.drop (blankG false s.data.toList)) (blankG false s.data.toList) []
    rw [List.length_drop] at hsum
    rw [← ho] at hcan hsum herr
    have hs0 : sumS [] = 0 := rfl
    rw [hs0, List.length_nil] at hsum
    generalize ofS s = o at e2 hcan hsum herr
    by_cases he : o.2.2 = 0
    · have hf := fits_of o.1 (by omega) (by omega)
      obtain ⟨K3, e3⟩ : ∃ K, ∀ k, K ≤ k → token_Text.f k o.1 = some (textS o.1) := text_ev o.1 (by omega) hf
      obtain ⟨M, hM, hmap⟩ := ofS_textS o.1 hcan (by omega) (by omega)
      have hlen : M.length = o.1.length := by have := congrArg List.length hmap; simpa using this
      have hsM : sumS M = sumS o.1 := by
        have := congrArg (List.map fun z : Int × ByteArray => z.2.size) hmap
        rw [List.map_map, List.map_map] at this
        exact congrArg List.sum this
      obtain ⟨K4, e4⟩ : ∃ K, ∀ k, K ≤ k → token_Of.f k (textS o.1) = some (M, 0, 0) := hM ▸ of_ev (textS o.1)
      obtain ⟨K5, e5⟩ : ∃ K, ∀ k, K ≤ k → sequiturlaw03_TokenAgain.l0 k o.1 M o.1.length 0 = some true := again_loop o.1 M (by omega) hmap hf (fits_of M (by omega) (by omega)) o.1.length 0 (by omega)
      refine ⟨K1 + K2 + K3 + K4 + K5 + 1, fun k hk => ?_⟩
      obtain ⟨k, rfl⟩ : ∃ n, k = n + 1 := ⟨k - 1, by omega⟩
      show sequiturlaw03_TokenAgain.f (k + 1) s = some true
      rw [sequiturlaw03_TokenAgain.f, e1 _ (by omega), Option.bind_some, if_pos rfl, if_neg h, e2 _ (by omega), Option.bind_some, if_pos he, e3 _ (by omega), Option.bind_some, e4 _ (by omega), Option.bind_some, if_pos rfl]
      have hbne : (((o.1.length : Int) != (M.length : Int))) = false := by rw [hlen]; simp
      show sequiturlaw03_TokenAgain.j0 (k + 1) o.1 M ((o.1.length : Int) != (M.length : Int)) = some true
      rw [hbne, sequiturlaw03_TokenAgain.j0, if_neg (by decide), e5 k (by omega)]
    · refine ⟨K1 + K2, fun k hk => ?_⟩
      show sequiturlaw03_TokenAgain.f k s = some true
      rw [sequiturlaw03_TokenAgain.f, e1 _ (by omega), Option.bind_some, if_pos rfl, if_neg h, e2 _ (by omega), Option.bind_some, if_neg he, herr he]
      rfl
end Go.Proofs.YtgajmlkhfjlojaaDoor.Pure
