-- own work: an evaluator of the program's code, and what it answers
import Derived.Test.YtapjanalameofaaDoorEngC
import Derived.Test.YtapjanalameofaaDoorTab
import Derived.Test.YtapjanalameofaaDoorSh
import Derived.WalkKit
import Derived.Lib.Fields
import Derived.Lib.SmallJoins
import Derived.Deep.LoopGhost
import Derived.Maps.Own
import Derived.Maps.OwnOps
import Derived.Maps.OwnSet
import Derived.Maps.Views
import Derived.Maps.Keyed
import Derived.Maps.AppendAt
import Derived.StringKeys
import Derived.Laws.NewBlocks
import Derived.Test.YtapjanalameofaaDoorProg
/- Package token's words: the map of all words, and the look-up (a function told by hand). -/
set_option linter.unusedVariables false
set_option linter.unusedSimpArgs false
namespace Go.Eng
open Go Go.RowKit Go.Proofs
section
open Go.WideMaps Go.Maps
attribute [local go_sem] Oper.semAt_some
theorem LaidW.below {w w' : World} (h : LaidW w) (hb : Below w.heap.size w w') : LaidW w' :=
  Joins.tab_stays (g := 4) (by kernel_rfl) h hb (Nat.le_refl _)
theorem words_fields : Lib.fields wordText = wordList := by decide +kernel
def wordsB : List ByteArray := wordList.map fun l => ⟨l.toArray⟩
def mapOf (l : List ByteArray) : DataW Unit := l.foldl (fun D s => D.put (.string s.data.toList) (.lit (.bool true))) (.map [])
theorem mapOf_snoc (l : List ByteArray) (s : ByteArray) : mapOf (l ++ [s]) = (mapOf l).put (.string s.data.toList) (.lit (.bool true)) := by simp [mapOf]
theorem wordsB_length : wordsB.length = 34 := by decide +kernel
theorem law : Keyed Tryd.prog 9 := string_keyed Tryd.underlying9
theorem zeroB (w : World) : (zeroValue 4).run Tryd.prog w = .ok (.bool false) w := by kernel_rfl
theorem wordsB_size : ∀ s ∈ wordsB, s.size ≤ maxLen := by
  have h : ∀ s ∈ wordsB, s.size ≤ 32 := by decide +kernel
  intro s hs
  have := h s hs
  unfold maxLen
  omega
theorem fields_cells : ((Lib.fields (⟨wordText.toArray⟩ : ByteArray).data.toList).map fun l => Value.string ⟨l.toArray⟩) = wordsB.map Value.string := by
  rw [show (⟨wordText.toArray⟩ : ByteArray).data.toList = wordText by simp, words_fields]; simp [wordsB]

theorem isKey (l : List UInt8) : WideAt.IsKeyLit (.string l) := trivial
theorem fold_isMap : ∀ (l : List ByteArray) (D : DataW Unit), IsMap D → IsMap (l.foldl (fun D s => D.put (.string s.data.toList) (.lit (.bool true))) D)
  | [], _, h => h
  | s :: l, D, h => by rw [List.foldl_cons]; exact fold_isMap l _ (h.put _ _)
theorem fold_atKey (x : List UInt8) (z : DataW Unit) : ∀ (l : List ByteArray) (D : DataW Unit), IsMap D →
    (l.foldl (fun D s => D.put (.string s.data.toList) (.lit (.bool true))) D).atKey (.string x) z = if (l.map fun s => s.data.toList).contains x then .lit (.bool true) else D.atKey (.string x) z
  | [], D, _ => by simp
  | s :: l, D, h => by
    rw [List.foldl_cons, fold_atKey x z l _ (h.put _ _), List.map_cons, List.contains_cons]
    by_cases hx : x = s.data.toList
    · subst hx
      rw [atKey_put_same h (isKey _)]
      simp
    · rw [atKey_put_other (by simpa using hx)]
      have : (x == s.data.toList) = false := by simpa using hx
      simp [this]
theorem mapOf_atKey (x : List UInt8) : (mapOf wordsB).atKey (.string x) (.lit (.bool false)) = .lit (.bool (wordL x)) := by
  unfold mapOf
  rw [fold_atKey x _ _ _ ⟨[], rfl⟩]
  have h1 : (wordsB.map fun s => s.data.toList) = wordList := by simp [wordsB, Function.comp_def]
  have h2 : (DataW.map [] : DataW Unit).atKey (.string x) (.lit (.bool false)) = .lit (.bool false) := rfl
  rw [h1, h2]
  unfold wordL
  cases wordList.contains x <;> rfl

theorem fields_words (w : World) (hLa : LaidW w) :
    Calls Tryd.prog 95 #[.string ⟨#[116, 114, 117, 101, 32, 102, 97, 108, 115, 101, 32, 115, 111, 114, 116, 32, 102, 117, 110, 32, 112, 114, 101, 100, 32, 97, 120, 105, 111, 109, 32, 116, 104, 101, 111, 114, 101, 109, 32, 112, 114, 111, 111, 102, 32, 113, 101, 100, 32, 97, 115, 32, 98, 97, 99, 107, 32, 105, 110, 116, 114, 111, 32, 115, 112, 108, 105, 116, 32, 108, 101, 102, 116, 32, 114, 105, 103, 104, 116, 32, 101, 120, 97, 99, 116, 32, 97, 115, 115, 117, 109, 101, 32, 97, 112, 112, 108, 121, 32, 119, 105, 116, 110, 101, 115, 115, 32, 99, 97, 115, 101, 115, 32, 104, 97, 118, 101, 32, 99, 111, 110, 116, 114, 97, 32, 114, 101, 102, 108, 32, 115, 119, 97, 112, 32, 112, 114, 111, 112, 32, 97, 114, 105, 116, 104, 32, 109, 105, 120, 101, 100, 32, 97, 117, 116, 111, 32, 99, 111, 110, 103, 114, 32, 116, 114, 121, 32, 108, 111, 111, 112, 32, 101, 97, 99, 104, 32, 115, 107, 105, 112, 32, 102, 97, 105, 108]⟩] w fun e w' => e = .returned (.slice (some ⟨w.heap.size, 0, none⟩) 34 34) ∧ w' = w.alloc (.cells (wordsB.map Value.string).toArray 9) := by
  have h := Tryd.strings_Fields_laid ⟨wordText.toArray⟩ w (by decide +kernel) (by
    intro j b hb
    have h0 : ∀ b ∈ wordText, b.toNat < 128 := by decide +kernel
    exact h0 b (List.mem_of_getElem? (by simpa using hb))) hLa
  rw [fields_cells] at h
  have hl : (Lib.fields (⟨wordText.toArray⟩ : ByteArray).data.toList).length = 34 := by
    rw [show (⟨wordText.toArray⟩ : ByteArray).data.toList = wordText by simp, words_fields]; decide +kernel
  rw [hl] at h
  exact h

theorem take_snoc (l : List ByteArray) (k : Nat) (h : k < l.length) : l.take (k + 1) = l.take k ++ [l.getD k ByteArray.empty] := by
  rw [List.take_succ_eq_append_getElem h, List.getD, List.getElem?_eq_getElem h]; rfl

set_option maxHeartbeats 800000 in
set_option maxRecDepth 100000 in
theorem token_known.calls (w : World) (hLa : LaidW w) :
    Calls Tryd.prog 88 #[] w fun e w' => e = .returned (.map (some w.heap.size)) ∧ w'.ownsMap Tryd.prog 9 (plainElem Tryd.prog 4) w.heap.size 34 (mapOf wordsB) ∧ Below w.heap.size w w' := by
  have hmm := @run_makeMap Tryd.prog
  have HLA := Aside0.mk hLa
  clear hLa
  go_enter Tryd.func88, Tryd.ntmps88
  go_wp2_with fail
  refine (fields_words _ (HLA.out.below ((Below.refl _ _).alloc (Nat.le_refl _) _))).mono ?_
  rintro e w1 ⟨rfl, rfl⟩
  have hown0 : ((w.alloc (.map #[] 0)).alloc (.cells (wordsB.map Value.string).toArray 9)).ownsMap (H := Unit) Tryd.prog 9 (plainElem Tryd.prog 4) w.heap.size 0 (mapOf (wordsB.take 0)) := (World.ownsMap_made _ _ _ _).alloc _
  have hb0 : Below w.heap.size w ((w.alloc (.map #[] 0)).alloc (.cells (wordsB.map Value.string).toArray 9)) := ((Below.refl _ _).alloc (Nat.le_refl _) _).alloc (by simp) _
  have hc0 : ∀ j, j < 34 → ((w.alloc (.map #[] 0)).alloc (.cells (wordsB.map Value.string).toArray 9)).cell? ⟨w.heap.size + 1, j, none⟩ = some (.string (wordsB.getD j ByteArray.empty)) := by
    intro j hj
    have hj' : j < wordsB.length := by rw [wordsB_length]; exact hj
    rw [World.cell?_alloc_at _ _ _ _ (by simp)]
    simp [List.getElem?_eq_getElem hj', List.getD]
  have HO := Aside0.mk hown0
  have HB := Aside0.mk hb0
  have HC := Aside0.mk hc0
  clear hown0 hb0 hc0
  go_wp2
  go_loopw [7] (fun i wr => ∃ k : Nat, k ≤ 34 ∧ i = .int .i64 k ∧ Aside0 (wr.ownsMap (H := Unit) Tryd.prog 9 (plainElem Tryd.prog 4) w.heap.size k (mapOf (wordsB.take k))) ∧ Aside0 (Below w.heap.size w wr) ∧
      Aside0 (∀ j, j < 34 → wr.cell? ⟨w.heap.size + 1, j, none⟩ = some (.string (wordsB.getD j ByteArray.empty)))) (fun i _ => 34 - (intOf i).toNat)
  case atStart => exact ⟨0, Nat.zero_le _, rfl, HO, HB, HC⟩
  case round =>
    clear HO HB HC
    obtain ⟨k, hk, rfl, HO, HB, HC⟩ := hrel
    by_cases hlt : k < 34
    · obtain ⟨s, hs⟩ : ∃ s, s = wordsB.getD k ByteArray.empty := ⟨_, rfl⟩
      have hcx : wr.cell? ⟨w.heap.size + 1, k, none⟩ = some (.string s) := by rw [hs]; exact HC.out k hlt
      have hkey : keyOf Tryd.prog 9 (.string s) = some (.string s.data.toList) := by
        refine keyOf_string_mk Tryd.underlying9 ?_
        rw [hs]
        have hj : k < wordsB.length := by rw [wordsB_length]; exact hlt
        rw [List.getD, List.getElem?_eq_getElem hj]
        exact wordsB_size _ (List.getElem_mem hj)
      have HS := Aside0.mk hs
      clear hs
      go_wp2_with (first
        | (at_mapUpdate; refine wpList_mapUpdate_own _ rfl _ _ _ 107 rfl 9 4 law Tryd.underlying107 _ w.heap.size k _ rfl HO.out (by unfold maxLen; omega) _ _ _ rfl rfl hkey _ [] (plainElem_bool Tryd.underlying4 true) ?_)
        | go_in)
      intro w1 hown1 hgrow1
      have R1 : w1.ownsMap (H := Unit) Tryd.prog 9 (plainElem Tryd.prog 4) w.heap.size (k + 1) (mapOf (wordsB.take (k + 1))) := by
        rw [take_snoc _ _ (by rw [wordsB_length]; exact hlt), mapOf_snoc, ← HS.out]; exact hown1
      have R2 := HB.out.grown hgrow1 HB.out.size (fun j hj => by cases hj; exact Nat.le_refl _)
      have R3 : ∀ j, j < 34 → w1.cell? ⟨w.heap.size + 1, j, none⟩ = some (.string (wordsB.getD j ByteArray.empty)) := fun j hj => hgrow1.cell (HC.out j hj) (by simp)
      have HO1 := Aside0.mk R1
      have HB1 := Aside0.mk R2
      have HC1 := Aside0.mk R3
      clear hown1 hgrow1 HO HB HC R1 R2 R3 hcx hkey
      go_wp2
      go_roundw
      case rel => exact ⟨k + 1, by omega, by go_num, HO1, HB1, HC1⟩
      case measure => simp [intOf]; omega
    · have : k = 34 := by omega
      subst this
      go_wp2
      go_ret
      have h := HO.out
      rw [List.take_of_length_le (by rw [wordsB_length]; omega)] at h
      exact ⟨rfl, h, HB.out⟩

/-- A look-up in a map of bools. -/
theorem lookup_bool {H : Type} {P : Program} {w : World} {k e t : TypeId} {b n : Nat} {D : DataW H} (h : w.ownsMap P k (plainElem P e) b n D) (K : Keyed P k) (ht : P.underlying t = some (.map k e)) (he : P.underlying e = some .bool)
    (hz : (zeroValue e).run P w = .ok (.bool false) w) {key : Value} {kl : Lit} (hkey : keyOf P k key = some kl) (c : Bool) (hc : D.atKey kl (.lit (.bool false)) = .lit (.bool c)) : (Instr.lookup t (.map (some b)) key false).run P w = .ok (.bool c) w := by
  obtain ⟨v, ps, hrun, hv⟩ := h.lookup K ht hz (plainElem_bool he false) hkey
  rw [hc] at hv
  have : v = .bool c := by
    unfold plainElem at hv
    rw [he] at hv
    cases v <;> simp at hv
    rw [hv.1]
  rw [this] at hrun
  exact hrun

set_option maxHeartbeats 800000 in
theorem token_Word.any (s : ByteArray) (w : World) (hs : s.size ≤ 9223372036854775807) (hLa : LaidW w) :
    Calls Tryd.prog 79 #[.string s] w fun e w' => e = .returned (.bool (wordL s.data.toList)) ∧ Below w.heap.size w w' := by
  have HLA := Aside0.mk hLa
  clear hLa
  go_enter Tryd.func79, Tryd.ntmps79
  go_wp2_with fail
  refine (token_known.calls _ HLA.out).mono ?_
  rintro e w1 ⟨rfl, hown, hb⟩
  have hl := lookup_bool hown law Tryd.underlying107 Tryd.underlying4 (zeroB _) (keyOf_string_mk Tryd.underlying9 (s := s) (by unfold maxLen; exact hs)) _ (mapOf_atKey s.data.toList)
  have HB := Aside0.mk hb
  clear hown hb
  go_wp2
  go_ret
  exact ⟨rfl, HB.out⟩
end
theorem wordOK {A : Ann} (hA : ∀ w, A.laid w → LaidW w) : ExtOK Tryd.prog A 79 wordQ := by
  refine ext_of fun cs r hr => ?_
  unfold wordQ at hr
  split at hr
  · rename_i s
    split at hr
    · rename_i hs
      cases hr
      refine ⟨_, rfl, fun w0 w F vals hl hb hF ha => ?_⟩
      simp only [RA] at ha
      obtain ⟨u, r, hv, h1, h2, rfl⟩ := ha
      have hu : u.cells.toList = [u] := by cases u <;> simp [aggV, C.isAgg, Value.cells] at h2 ⊢
      rw [hu] at h1
      simp only [RC, List.cons.injEq, and_true] at h1
      obtain ⟨rfl, _⟩ := h1
      have ev : vals = #[.string s] := by
        have := congrArg List.toArray hv
        simpa using this
      subst ev
      refine (token_Word.any s w hs ((hA _ hl).below hb)).mono ?_
      rintro e w' ⟨rfl, hb'⟩
      exact ⟨_, rfl, hb', RC_v rfl rfl, rfl⟩
    · cases hr
  · cases hr
end Go.Eng
