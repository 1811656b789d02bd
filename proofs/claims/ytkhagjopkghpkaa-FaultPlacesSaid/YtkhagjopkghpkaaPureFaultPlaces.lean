/-
  Proved: the line and the column of a place, and the mark below it, are what the document says: texts of at most 2000 bytes.
-/
import Derived.Test.YtkhagjopkghpkaaPureFaultText
import Derived.Test.YtkhagjopkghpkaaPrint2
import Derived.Test.YtkhagjopkghpkaaPrint3
import Derived.Test.YtkhagjopkghpkaaPrint5
import Derived.Test.YtkhagjopkghpkaaPrint6
namespace Go.Proofs.Ytkhagjopkghpkaa.Pure
set_option linter.unusedVariables false
set_option linter.unusedSimpArgs false
open Go.RowKit Go.Proofs.Ytkhagjopkghpkaa.Print Go.Proofs.Ytkhagjopkghpkaa.Spec Go.Proofs.Ytkhagjopkghpkaa.Aux Go.Proofs.YtkhagjopkghpkaaW.PrintWords Go.Proofs.YtkhagjopkghpkaaW.PrintLast Go.Proofs.YtkhagjopkghpkaaW.PrintMore

theorem extract_upto' (s : ByteArray) (a : Nat) (h : a ≤ s.size) : (s.extract 0 a).data.toList = s.data.toList.take a := by
  rw [ByteArray.data_extract, Array.toList_extract]; simp [List.extract]
theorem extract_size' (s : ByteArray) (a : Nat) (h : a ≤ s.size) : (s.extract 0 a).size = a := by
  rw [ByteArray.size_extract]; omega
/-- The place, within the text. -/
def atA (s : ByteArray) (a1 : Int) : Nat := (mn (mx a1 0) (s.size : Int)).toNat
theorem atA_le (s : ByteArray) (a1 : Int) : ((atA s a1 : Nat) : Int) = mn (mx a1 0) (s.size : Int) ∧ atA s a1 ≤ s.size := by
  unfold atA mn mx
  constructor <;> split <;> split <;> omega
theorem lastNL_le (l : List UInt8) : lastNL l ≤ l.length := by
  unfold lastNL
  suffices h : ∀ (l : List UInt8) (i b : Nat), b ≤ i → lastGo l i b ≤ i + l.length by simpa using h l 0 0 (Nat.le_refl _)
  intro l
  induction l with
  | nil => intro i b h; simp [lastGo]; exact h
  | cons c l ih =>
    intro i b h
    rw [lastGo]
    split
    · have := ih (i + 1) (i + 1) (Nat.le_refl _); simp; omega
    · have := ih (i + 1) b (by omega); simp; omega
theorem begin_f (s : ByteArray) (a1 : Int) (hs : s.size ≤ 2000) : fault_begin.f s a1 = some ((lastNL (s.data.toList.take (atA s a1)) : Int), ((atA s a1 : Nat) : Int)) := by
  obtain ⟨h1, h2⟩ := atA_le s a1
  have h3 := lastIndex_nl (s.extract 0 (atA s a1))
  have h4 := lastNL_le (s.data.toList.take (atA s a1))
  have h6 : (s.data.toList.take (atA s a1)).length ≤ 2000 := by rw [List.length_take]; omega
  rw [extract_upto' s _ h2] at h3
  unfold fault_begin.f
  rw [← h1, if_pos (by omega), if_pos (by omega), Int.toNat_natCast]
  unfold strings_LastIndexByte.f
  rw [if_pos (by rw [extract_size' s _ h2]; omega), Option.bind_some, h3, wrap_in _ (by omega) (by omega)]
theorem where_f (s : ByteArray) (a1 : Int) (hs : s.size ≤ 2000) : fault_Where.f s a1 = some (((s.data.toList.take (atA s a1)).count 10 : Int) + 1, (atA s a1 : Int) - (lastNL (s.data.toList.take (atA s a1)) : Int) + 1) := by
  obtain ⟨h1, h2⟩ := atA_le s a1
  have h4 := lastNL_le (s.data.toList.take (atA s a1))
  have h5 : (s.data.toList.take (atA s a1)).length ≤ atA s a1 := by rw [List.length_take]; omega
  have h6 : (s.data.toList.take (atA s a1)).count 10 ≤ (s.data.toList.take (atA s a1)).length := List.count_le_length
  unfold fault_Where.f
  rw [begin_f s a1 hs, Option.bind_some]
  simp only
  rw [if_pos (by omega), if_pos (by omega), Int.toNat_natCast]
  unfold strings_Count.f
  rw [if_pos (show (⟨#[10]⟩ : ByteArray).size = 1 from rfl), Option.bind_some, extract_upto' s _ h2]
  show some (wrap64 (((s.data.toList.take (atA s a1)).count 10 : Int) + 1), _) = _
  rw [wrap_in (((s.data.toList.take (atA s a1)).count 10 : Int) + 1) (by omega) (by omega), wrap_in ((atA s a1 : Int) - (lastNL (s.data.toList.take (atA s a1)) : Int)) (by omega) (by omega), wrap_in _ (by omega) (by omega)]
theorem bt_at' (s : ByteArray) (i : Nat) (h : i < s.data.toList.length) : bt s (i : Int) = (s.data.toList[i].toNat : Int) := by
  have hz : s.data.toList.length = s.size := Array.length_toList
  unfold bt
  rw [dif_pos (by omega)]; rfl
theorem refWhere_loop (s : ByteArray) (a1 : Int) (hs : s.size ≤ 2000) : ∀ (d i : Nat), i + d = atA s a1 → Ev (fun k => sequiturref04_Where.l0 k s a1 (((s.data.toList.take i).count 10 : Int) + 1) ((i : Int) - (lastNL (s.data.toList.take i) : Int) + 1) i) (((s.data.toList.take (atA s a1)).count 10 : Int) + 1, (atA s a1 : Int) - (lastNL (s.data.toList.take (atA s a1)) : Int) + 1)
  | 0, i, h => by
    obtain ⟨h1, h2⟩ := atA_le s a1
    obtain rfl : i = atA s a1 := by omega
    have hend : Ev (fun k => sequiturref04_Where.j1 k s a1 (((s.data.toList.take (atA s a1)).count 10 : Int) + 1) ((atA s a1 : Int) - (lastNL (s.data.toList.take (atA s a1)) : Int) + 1) (atA s a1) false) (((s.data.toList.take (atA s a1)).count 10 : Int) + 1, (atA s a1 : Int) - (lastNL (s.data.toList.take (atA s a1)) : Int) + 1) :=
      Ev.step (f := fun _ => some _) (fun k => by simp only [sequiturref04_Where.j1, Bool.false_eq_true, if_false]) (Ev.now _)
    refine Ev.step (f := fun k => sequiturref04_Where.j1 k s a1 (((s.data.toList.take (atA s a1)).count 10 : Int) + 1) ((atA s a1 : Int) - (lastNL (s.data.toList.take (atA s a1)) : Int) + 1) (atA s a1) false) (fun k => ?_) hend
    simp only [sequiturref04_Where.l0]
    by_cases hn : ((atA s a1 : Nat) : Int) < (s.size : Int)
    · rw [if_pos hn, decide_eq_false (by unfold mn mx at h1; split at h1 <;> split at h1 <;> omega)]
    · rw [if_neg hn]
  | d + 1, i, h => by
    obtain ⟨h1, h2⟩ := atA_le s a1
    have hz : s.data.toList.length = s.size := Array.length_toList
    have hi : i < s.data.toList.length := by omega
    have ih := refWhere_loop s a1 hs d (i + 1) (by omega)
    rw [List.take_succ_eq_append_getElem hi, lastNL_snoc, List.length_take, List.count_append] at ih
    have hw : wrap64 ((i : Int) + 1) = ((i + 1 : Nat) : Int) := wrap_succ i (by omega)
    have h4 := lastNL_le (s.data.toList.take i)
    have h5 : (s.data.toList.take i).length = i := by rw [List.length_take]; omega
    have h6 : (s.data.toList.take i).count 10 ≤ (s.data.toList.take i).length := List.count_le_length
    refine Ev.step (f := fun k => sequiturref04_Where.j1 k s a1 (((s.data.toList.take i).count 10 : Int) + 1) ((i : Int) - (lastNL (s.data.toList.take i) : Int) + 1) i true) (fun k => ?_) ?_
    · simp only [sequiturref04_Where.l0]
      rw [if_pos (by omega), decide_eq_true (by unfold mn mx at h1; split at h1 <;> split at h1 <;> omega)]
    · refine Ev.step (f := fun k => if s.data.toList[i] = 10 then sequiturref04_Where.l0 k s a1 (((s.data.toList.take i).count 10 : Int) + 1 + 1) 1 ((i + 1 : Nat) : Int) else sequiturref04_Where.l0 k s a1 (((s.data.toList.take i).count 10 : Int) + 1) ((i : Int) - (lastNL (s.data.toList.take i) : Int) + 1 + 1) ((i + 1 : Nat) : Int)) (fun k => ?_) ?_
      · simp only [sequiturref04_Where.j1, if_true]
        rw [if_pos (by omega), if_pos (by omega), bt_at' s i hi, hw, wrap_in (((s.data.toList.take i).count 10 : Int) + 1 + 1) (by omega) (by omega), wrap_in ((i : Int) - (lastNL (s.data.toList.take i) : Int) + 1 + 1) (by omega) (by omega)]
        simp only [nl_iff]
      · by_cases e : s.data.toList[i] = 10
        · refine Ev.pos e ?_
          rw [if_pos e, e] at ih
          have x1 : ((((s.data.toList.take i).count 10 + [(10 : UInt8)].count 10 : Nat) : Int) + 1) = (((s.data.toList.take i).count 10 : Int) + 1 + 1) := by simp
          have x2 : (((i + 1 : Nat) : Int) - ((min i s.data.toList.length + 1 : Nat) : Int) + 1) = 1 := by omega
          rw [x1, x2] at ih
          exact ih
        · refine Ev.neg e ?_
          rw [if_neg e, List.count_singleton, if_neg (by simpa using e)] at ih
          have x2 : (((i + 1 : Nat) : Int) - (lastNL (s.data.toList.take i) : Int) + 1) = ((i : Int) - (lastNL (s.data.toList.take i) : Int) + 1 + 1) := by omega
          rw [Nat.add_zero, x2] at ih
          exact ih
theorem refWhere_f (s : ByteArray) (a1 : Int) (hs : s.size ≤ 2000) : Ev (fun k => sequiturref04_Where.f k s a1) (((s.data.toList.take (atA s a1)).count 10 : Int) + 1, (atA s a1 : Int) - (lastNL (s.data.toList.take (atA s a1)) : Int) + 1) := by
  have h := refWhere_loop s a1 hs (atA s a1) 0 (by omega)
  simp only [List.take_zero, List.count_nil] at h
  exact h
def mkB (l : List UInt8) : ByteArray := ⟨l.toArray⟩
theorem mkB_size (l : List UInt8) : (mkB l).size = l.length := by simp [mkB, ByteArray.size]
theorem mkB_app (a b : List UInt8) : mkB a ++ mkB b = mkB (a ++ b) := by
  rw [← ba_data]; simp [mkB, ByteArray.data_append]
theorem extract_mk (s : ByteArray) (a b : Nat) : s.extract a b = mkB ((s.data.toList.take b).drop a) := by
  rw [← ba_data, ByteArray.data_extract, Array.toList_extract]
  simp [mkB, List.extract, List.drop_take]
theorem cut_f (t : List UInt8) (ht : t.length ≤ 2000) : ∃ r2 r3, strings_Cut.f (mkB t) (⟨#[10]⟩ : ByteArray) = some (mkB (t.takeWhile fun c => c != 10), r2, r3) := by
  have hi : stringslite_Index.f (mkB t) (⟨#[10]⟩ : ByteArray) = some (Lib.indexByte t 10) := by
    unfold stringslite_Index.f
    rw [if_pos (show (⟨#[10]⟩ : ByteArray).size = 1 from rfl)]
    rfl
  unfold strings_Cut.f stringslite_Cut.f
  rw [hi, Option.bind_some]
  rcases idx_take t with ⟨h1, h2⟩ | ⟨n, h1, h2, h3⟩
  · rw [h1, if_neg (by omega), Option.bind_some, h2]
    exact ⟨_, _, rfl⟩
  · have hw : wrap64 ((n : Int) + ((⟨#[10]⟩ : ByteArray).size : Int)) = ((n + 1 : Nat) : Int) := by
      rw [show ((⟨#[10]⟩ : ByteArray).size : Int) = 1 from rfl]; exact wrap_succ n (by omega)
    rw [h1, if_pos (by omega), if_pos (by omega), if_pos (by rw [mkB_size]; omega), hw, if_pos (by omega), if_pos (by rw [mkB_size]; omega), Option.bind_some, extract_mk, Int.toNat_natCast, h3]
    refine ⟨_, _, congrArg some (Prod.ext ?_ rfl)⟩
    show mkB ((t.take n).drop 0) = mkB (t.take n)
    rw [List.drop_zero]
/-- The mark that both tell. -/
def markL (s : ByteArray) (a1 : Int) : List UInt8 :=
  (((s.data.toList.drop (lastNL (s.data.toList.take (atA s a1)))).takeWhile fun c => c != 10) ++ [10]) ++ List.replicate (atA s a1 - lastNL (s.data.toList.take (atA s a1))) 32 ++ [94]
theorem one_rep : ∀ n, Lib.repeatL [32] n = List.replicate n (32 : UInt8)
  | 0 => rfl
  | n + 1 => by rw [Lib.repeatL, one_rep n]; rfl
theorem mark_f (s : ByteArray) (a1 : Int) (hs : s.size ≤ 2000) : fault_Mark.f s a1 = some (mkB (markL s a1)) := by
  obtain ⟨h1, h2⟩ := atA_le s a1
  have hz : s.data.toList.length = s.size := Array.length_toList
  have h4 := lastNL_le (s.data.toList.take (atA s a1))
  have h5 : (s.data.toList.take (atA s a1)).length = atA s a1 := by rw [List.length_take]; omega
  obtain ⟨b, hb⟩ : ∃ b, b = lastNL (s.data.toList.take (atA s a1)) := ⟨_, rfl⟩
  have he : s.extract b s.size = mkB (s.data.toList.drop b) := by rw [extract_mk, ← hz, List.take_length]
  obtain ⟨r2, r3, hc⟩ := cut_f (s.data.toList.drop b) (by rw [List.length_drop]; omega)
  have htw : ((s.data.toList.drop b).takeWhile fun c => c != 10).length ≤ 2000 := by
    have := (List.takeWhile_sublist (l := s.data.toList.drop b) (fun c => c != 10)).length_le
    rw [List.length_drop] at this
    omega
  unfold markL
  rw [← hb] at h4 ⊢
  unfold fault_Mark.f
  rw [begin_f s a1 hs, Option.bind_some, ← hb]
  simp only
  rw [if_pos (by omega), if_pos (by omega), Int.toNat_natCast, he, hc, Option.bind_some]
  simp only
  rw [if_pos (by rw [mkB_size]; omega), wrap_in _ (by omega) (by omega)]
  have hrep : strings_Repeat.f (⟨#[32]⟩ : ByteArray) ((atA s a1 : Int) - (b : Int)) = some (mkB (List.replicate (atA s a1 - b) 32)) := by
    unfold strings_Repeat.f
    have e1 : ((atA s a1 : Int) - (b : Int)).toNat = atA s a1 - b := by omega
    rw [if_pos ⟨by omega, by omega, by rw [e1, show (⟨#[32]⟩ : ByteArray).size = 1 from rfl]; omega⟩, e1]
    show some (mkB (Lib.repeatL [32] _)) = _
    rw [one_rep]
  rw [hrep, Option.bind_some, show (⟨#[10]⟩ : ByteArray) = mkB [10] from rfl, show (⟨#[94]⟩ : ByteArray) = mkB [94] from rfl, mkB_app, mkB_app, mkB_app]
  rw [if_pos (by rw [mkB_size, mkB_size]; simp; omega), if_pos (by rw [mkB_size]; simp; omega)]
theorem refMark_end (out : List UInt8) (m : Nat) (ho : out.length ≤ 4000) (hm : m ≤ 2000) : ∀ (d j : Nat), j + d = m → Ev (fun k => sequiturref04_Mark.l1 k ((m : Int) + 1) (mkB out) (mkB (List.replicate j 32)) ((j : Int) + 1)) (mkB (out ++ [10] ++ List.replicate m 32 ++ [94]))
  | 0, j, h => by
    obtain rfl : j = m := by omega
    refine Ev.step (f := fun _ => some _) (fun k => ?_) (Ev.now _)
    simp only [sequiturref04_Mark.l1]
    rw [if_neg (by omega), if_pos (by rw [mkB_size]; omega), show (⟨#[10]⟩ : ByteArray) = mkB [10] from rfl, show (⟨#[94]⟩ : ByteArray) = mkB [94] from rfl, mkB_app, mkB_app, mkB_app, if_pos (by rw [mkB_size, mkB_size]; simp; omega), if_pos (by rw [mkB_size]; simp; omega)]
  | d + 1, j, h => by
    have ih := refMark_end out m ho hm d (j + 1) (by omega)
    refine Ev.step (fun k => ?_) ih
    simp only [sequiturref04_Mark.l1]
    have e2 : mkB (List.replicate j 32) ++ (⟨#[32]⟩ : ByteArray) = mkB (List.replicate (j + 1) 32) := by
      rw [show (⟨#[32]⟩ : ByteArray) = mkB [32] from rfl, mkB_app, List.replicate_succ']
    rw [if_pos (by omega), if_pos (by rw [mkB_size]; simp; omega), e2, wrap_in ((j : Int) + 1 + 1) (by omega) (by omega)]
    rfl
theorem refMark_loop (s : ByteArray) (line : Int) (m : Nat) (hs : s.size ≤ 2000) (hm : m ≤ 2000) : ∀ (d i : Nat) (out : List UInt8) (n : Int), i + d = s.data.toList.length → out.length ≤ i → 1 ≤ n → n ≤ i + 1 →
    Ev (fun k => sequiturref04_Mark.l0 k s line ((m : Int) + 1) (mkB out) (mkB []) n i) (mkB ((out ++ outGo line (s.data.toList.drop i) n) ++ [10] ++ List.replicate m 32 ++ [94]))
  | 0, i, out, n, h, ho, h1, h2 => by
    have hz : s.data.toList.length = s.size := Array.length_toList
    refine Ev.step (fun k => ?_) (refMark_end (out ++ outGo line (s.data.toList.drop i) n) m (by rw [List.drop_of_length_le (by omega)]; simp [outGo]; omega) hm m 0 (by omega))
    simp only [sequiturref04_Mark.l0]
    rw [if_neg (by omega), List.drop_of_length_le (by omega)]
    simp [outGo]
  | d + 1, i, out, n, h, ho, h1, h2 => by
    have hz : s.data.toList.length = s.size := Array.length_toList
    have hi : i < s.data.toList.length := by omega
    have hw : wrap64 ((i : Int) + 1) = ((i + 1 : Nat) : Int) := wrap_succ i (by omega)
    have hex : s.extract i (i + 1) = mkB [s.data.toList[i]] := by
      rw [extract_mk, List.take_succ_eq_append_getElem hi, List.drop_append_of_le_length (by rw [List.length_take]; omega), List.drop_of_length_le (by rw [List.length_take]; omega), List.nil_append]
    rw [List.drop_eq_getElem_cons hi, outGo]
    refine Ev.step (f := fun k => if s.data.toList[i] = 10 then sequiturref04_Mark.l0 k s line ((m : Int) + 1) (mkB out) (mkB []) (n + 1) ((i + 1 : Nat) : Int) else if n = line then sequiturref04_Mark.l0 k s line ((m : Int) + 1) (mkB (out ++ [s.data.toList[i]])) (mkB []) n ((i + 1 : Nat) : Int) else sequiturref04_Mark.l0 k s line ((m : Int) + 1) (mkB out) (mkB []) n ((i + 1 : Nat) : Int)) (fun k => ?_) ?_
    · simp only [sequiturref04_Mark.l0]
      rw [if_pos (by omega), if_pos (by omega), bt_at' s i hi, hw, wrap_in (n + 1) (by omega) (by omega), if_pos (show (i : Int) ≤ ((i + 1 : Nat) : Int) by omega), if_pos (show ((i + 1 : Nat) : Int) ≤ (s.size : Int) by omega), Int.toNat_natCast, Int.toNat_natCast, hex, if_pos (show (mkB out).size + (mkB [s.data.toList[i]]).size ≤ 9223372036854775807 by rw [mkB_size, mkB_size]; simp; omega), mkB_app]
      simp only [nl_iff]
    · by_cases e : s.data.toList[i] = 10
      · rw [if_pos e]
        exact Ev.pos e (refMark_loop s line m hs hm d (i + 1) out (n + 1) (by omega) (by omega) (by omega) (by omega))
      · rw [if_neg e]
        refine Ev.neg e ?_
        by_cases e2 : n = line
        · rw [if_pos e2]
          have ih := refMark_loop s line m hs hm d (i + 1) (out ++ [s.data.toList[i]]) n (by omega) (by simp; omega) (by omega) (by omega)
          rw [List.append_assoc out] at ih
          exact Ev.pos e2 ih
        · rw [if_neg e2]
          exact Ev.neg e2 (refMark_loop s line m hs hm d (i + 1) out n (by omega) (by omega) (by omega) (by omega))
theorem refMark_f (s : ByteArray) (a1 : Int) (hs : s.size ≤ 2000) : Ev (fun k => sequiturref04_Mark.f k s a1) (mkB (markL s a1)) := by
  obtain ⟨h1, h2⟩ := atA_le s a1
  have hz : s.data.toList.length = s.size := Array.length_toList
  have h4 := lastNL_le (s.data.toList.take (atA s a1))
  have h5 : (s.data.toList.take (atA s a1)).length = atA s a1 := by rw [List.length_take]; omega
  obtain ⟨p1, p2⟩ := lastNL_spec s.data.toList (atA s a1) (by omega)
  obtain ⟨b, hb⟩ : ∃ b, b = lastNL (s.data.toList.take (atA s a1)) := ⟨_, rfl⟩
  unfold markL sequiturref04_Mark.f
  have hw := refWhere_f s a1 hs
  rw [← hb] at h4 p1 p2 hw ⊢
  rw [List.take_take, Nat.min_eq_left (by omega)] at p1 p2
  refine Ev.bind hw ?_
  have hl := refMark_loop s (((s.data.toList.take (atA s a1)).count 10 : Int) + 1) (atA s a1 - b) hs (by omega) s.data.toList.length 0 [] 1 (by omega) (by simp) (by omega) (by omega)
  have hout : outGo (((s.data.toList.take (atA s a1)).count 10 : Int) + 1) s.data.toList 1 = (s.data.toList.drop b).takeWhile fun c => c != 10 := by
    have := outGo_under (((s.data.toList.take (atA s a1)).count 10 : Int) + 1) (s.data.toList.drop b) (s.data.toList.take b) 1 p1 (by rw [p2]; omega)
    rw [List.take_append_drop] at this
    rw [this, outGo_at]
  rw [List.drop_zero, List.nil_append, hout] at hl
  have e3 : (atA s a1 : Int) - (b : Int) + 1 = ((atA s a1 - b : Nat) : Int) + 1 := by omega
  simp only [e3]
  exact hl
theorem FaultPlaces : sequiturlaw04_FaultPlaces.Pure := by
  intro s a1 hsz _
  refine Ev.rounds (g := fun k => sequiturlaw04_FaultPlaces.f k s a1) ?_
  unfold sequiturlaw04_FaultPlaces.f
  by_cases h : (s.size : Int) > 2000
  · exact Ev.pos h (Ev.now _)
  · refine Ev.neg h ?_
    have hs : s.size ≤ 2000 := by omega
    simp only [where_f s a1 hs, Option.bind_some]
    refine Ev.bind (refWhere_f s a1 hs) ?_
    simp only [if_true, mark_f s a1 hs, Option.bind_some]
    refine Ev.bind (refMark_f s a1 hs) ?_
    simp only [if_true]
    exact Ev.now _
end Go.Proofs.Ytkhagjopkghpkaa.Pure
