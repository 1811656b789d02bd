/-
  Proved: the text of any tokens is what the document says, for at most 60 tokens of at most 100 bytes.
-/
import Derived.Test.YtgajmlkhfjlojaaDoorPureToken2
import Derived.Test.YtgajmlkhfjlojaaDoorPrint9
import Derived.Test.YtgajmlkhfjlojaaDoorPrint10
namespace Go.Proofs.YtgajmlkhfjlojaaDoor.Pure
set_option linter.unusedVariables false
set_option linter.unusedSimpArgs false
open Go.RowKit Go.Proofs.YtgajmlkhfjlojaaDoor.Print Go.Proofs.YtgajmlkhfjlojaaDoor.Spec Go.Proofs.YtgajmlkhfjlojaaDoor.Aux Go.Proofs.YtgajmlkhfjlojaaDoorW.PrintWords Go.Proofs.YtgajmlkhfjlojaaDoorW.PrintLast Go.Proofs.YtgajmlkhfjlojaaDoorW.PrintMore

theorem joinTail_snoc (sep y : List UInt8) (r : List (List UInt8)) : Lib.joinTail sep (r ++ [y]) = Lib.joinTail sep r ++ sep ++ y := by
  simp [Lib.joinTail, List.append_assoc]
theorem join_snoc (sep y : List UInt8) (x : List UInt8) (r : List (List UInt8)) : Lib.join ((x :: r) ++ [y]) sep = Lib.join (x :: r) sep ++ sep ++ y := by
  rw [List.cons_append, Lib.join_cons, Lib.join_cons, joinTail_snoc]
  simp [List.append_assoc]
theorem lens_le (M : Nat) : ∀ l : List (List UInt8), (∀ x ∈ l, x.length ≤ M) → Lib.lens l ≤ M * l.length
  | [], _ => by simp [Lib.lens]
  | x :: l, h => by
    have h1 := h x List.mem_cons_self
    have h2 := lens_le M l (fun y hy => h y (List.mem_cons_of_mem _ hy))
    have h3 : Lib.lens (x :: l) = x.length + Lib.lens l := by simp [Lib.lens]
    rw [h3, List.length_cons, Nat.mul_succ]; omega
theorem join_le (M : Nat) (l : List (List UInt8)) (h : ∀ x ∈ l, x.length ≤ M) : (Lib.join l [32]).length ≤ (M + 1) * l.length := by
  cases l with
  | nil => simp [Lib.join_nil]
  | cons x r =>
    have h1 := lens_le M (x :: r) h
    rw [Lib.join_length, Nat.add_mul]
    simp only [List.length_cons, List.length_nil] at h1 ⊢
    omega
theorem texts_len (M : Nat) (l : List S30) (h : ∀ x ∈ l, x.f1.size ≤ M) : (Lib.join ((l.map (·.f1)).map (·.data.toList)) [32]).length ≤ (M + 1) * l.length := by
  have := join_le M ((l.map (·.f1)).map (·.data.toList)) (by
    intro x hx
    simp only [List.map_map, List.mem_map, Function.comp] at hx
    obtain ⟨y, hy, rfl⟩ := hx
    rw [size_list]; exact h y hy)
  simpa using this
theorem ba_append (a b : ByteArray) : (a ++ b).data.toList = a.data.toList ++ b.data.toList := by simp
theorem ba_ext {a b : ByteArray} (h : a.data.toList = b.data.toList) : a = b := (ba_data a b).1 h
theorem textS_list (l : List S30) : (textS l).data.toList = Lib.join ((l.map (·.f1)).map (·.data.toList)) [32] := by simp [textS, joinB]
theorem textS_size (l : List S30) : (textS l).size = (Lib.join ((l.map (·.f1)).map (·.data.toList)) [32]).length := by rw [← size_list, textS_list]
theorem refText_loop (l : List S30) (hl : l.length ≤ 60) (hx : ∀ x ∈ l, x.f1.size ≤ 100) : ∀ (d i : Nat), i + d = l.length → Ev (fun k => sequiturref03_Text.l0 k l (textS (l.take i)) i) (textS l)
  | 0, i, h => by
    refine Ev.step (f := fun _ => some (textS l)) (fun k => ?_) (Ev.now _)
    simp only [sequiturref03_Text.l0]
    rw [if_neg (by omega), List.take_of_length_le (by omega)]
  | d + 1, i, h => by
    refine Ev.step (fun k => ?_) (refText_loop l hl hx d (i + 1) (by omega))
    have hs := texts_len 100 (l.take i) (fun x hx' => hx x (List.mem_of_mem_take hx'))
    rw [← textS_size, List.length_take] at hs
    have hy := hx l[i] (List.getElem_mem (by omega))
    have htk : l.take (i + 1) = l.take i ++ [l[i]] := List.take_succ_eq_append_getElem (by omega)
    simp only [sequiturref03_Text.l0]
    rw [if_pos (show (i : Int) < l.length by omega), rd30_at l i (by omega), wrap_succ i (by omega)]
    by_cases h0 : i = 0
    · subst h0
      rw [if_neg (by omega), if_pos (by omega), if_pos (by omega)]
      congr 1
      refine ba_ext ?_
      rw [ba_append, textS_list, textS_list, htk]
      simp [Lib.join_one, Lib.join_nil]
    · have hsp : (textS (l.take i) ++ (⟨#[32]⟩ : ByteArray)).size = (textS (l.take i)).size + 1 := by rw [← size_list, ba_append, List.length_append, size_list]; rfl
      rw [if_pos (by omega), if_pos (by omega), if_pos (by omega), if_pos (by rw [hsp]; omega)]
      congr 1
      refine ba_ext ?_
      obtain ⟨x, r, hxr⟩ : ∃ x r, l.take i = x :: r := List.exists_cons_of_length_pos (by rw [List.length_take]; omega)
      rw [ba_append, ba_append, textS_list, textS_list, htk, hxr, List.map_append, List.map_append]
      simp only [List.map_cons, List.map_nil]
      rw [join_snoc]
theorem refText_ev (l : List S30) (hl : l.length ≤ 60) (hx : ∀ x ∈ l, x.f1.size ≤ 100) : Ev (fun k => sequiturref03_Text.f k l) (textS l) := refText_loop l hl hx l.length 0 (by omega)
theorem tt_loop (l : List S30) (hl : l.length ≤ 60) : ∀ (d i : Nat), i + d = l.length → (∀ x ∈ l.take i, x.f1.size ≤ 100) → Ev (fun k => sequiturlaw03_TokenTexts.l0 k l l l.length i) true
  | 0, i, h, hx => by
    rw [List.take_of_length_le (by omega)] at hx
    have hs := texts_len 100 l hx
    obtain ⟨K1, e1⟩ : ∃ K, ∀ k, K ≤ k → token_Text.f k l = some (textS l) := text_ev l (by omega) ⟨by omega, by
      have : (⟨#[32]⟩ : ByteArray).data.toList = [32] := rfl
      rw [this]; omega⟩
    obtain ⟨K2, e2⟩ : ∃ K, ∀ k, K ≤ k → sequiturref03_Text.f k l = some (textS l) := refText_ev l hl hx
    refine ⟨K1 + K2 + 1, fun k hk => ?_⟩
    obtain ⟨k, rfl⟩ : ∃ n, k = n + 1 := ⟨k - 1, by omega⟩
    show sequiturlaw03_TokenTexts.l0 (k + 1) l l l.length i = some true
    rw [sequiturlaw03_TokenTexts.l0, if_neg (by omega), e1 k (by omega), Option.bind_some, e2 k (by omega), Option.bind_some]
    simp
  | d + 1, i, h, hx => by
    by_cases e : l[i].f1.size ≤ 100
    · refine Ev.step (fun k => ?_) (tt_loop l hl d (i + 1) (by omega) (by
        rw [List.take_succ_eq_append_getElem (by omega)]
        intro x hm
        rcases List.mem_append.1 hm with hm | hm
        · exact hx x hm
        · rw [List.mem_singleton.1 hm]; exact e))
      simp only [sequiturlaw03_TokenTexts.l0]
      rw [if_pos (by omega), if_pos (by omega), if_pos (by omega), rd30_at l i (by omega), if_neg (by omega), wrap_succ i (by omega)]
    · refine Ev.step (f := fun _ => some true) (fun k => ?_) (Ev.now _)
      simp only [sequiturlaw03_TokenTexts.l0]
      rw [if_pos (by omega), if_pos (by omega), if_pos (by omega), rd30_at l i (by omega), if_pos (by omega)]
theorem TokenTexts : sequiturlaw03_TokenTexts.Pure := by
  rintro l ⟨hl0, hg⟩
  refine Ev.rounds (g := fun k => sequiturlaw03_TokenTexts.f k l) ?_
  obtain ⟨K1, e1⟩ : ∃ K, ∀ k, K ≤ k → sequiturlaw03_alive.f k = some true := alive_ev
  by_cases h : (l.length : Int) > 60
  · refine ⟨K1, fun k hk => ?_⟩
    show sequiturlaw03_TokenTexts.f k l = some true
    rw [sequiturlaw03_TokenTexts.f, e1 k hk, Option.bind_some, if_pos rfl, if_pos h]
  · obtain ⟨K2, e2⟩ : ∃ K, ∀ k, K ≤ k → sequiturlaw03_TokenTexts.l0 k l l l.length 0 = some true := tt_loop l (by omega) l.length 0 (by omega) (by simp)
    refine ⟨K1 + K2, fun k hk => ?_⟩
    show sequiturlaw03_TokenTexts.f k l = some true
    rw [sequiturlaw03_TokenTexts.f, e1 k (by omega), Option.bind_some, if_pos rfl, if_neg h, e2 k (by omega)]
end Go.Proofs.YtgajmlkhfjlojaaDoor.Pure
