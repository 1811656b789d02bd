-- own work: an evaluator of the program's code, and what it answers
import Derived.Test.YtdmoipccmbimhaaGreatDoorTab
/- What is wrong with a part of a term, by its kind. -/
set_option maxRecDepth 100000
set_option linter.unusedVariables false
set_option linter.unusedSimpArgs false
namespace Go.Eng
open Go Go.Proofs
theorem bytes_empty : ByteArray.empty.toList = [] := by kernel_rfl
theorem nm_empty {nm : ByteArray} : (nm.toList ≠ []) ↔ (nm.toList == ByteArray.empty.toList) = false := by
  rw [bytes_empty]; simp
theorem bne_t {a b : Int} (h : a ≠ b) : (a != b) = true := by simpa using h
theorem bne_f {a b : Int} (h : a = b) : (a != b) = false := by simpa using h
theorem range8 {op : Int} (h : ¬ (op < 1 ∨ 8 < op)) : op = 1 ∨ op = 2 ∨ op = 3 ∨ op = 4 ∨ op = 5 ∨ op = 6 ∨ op = 7 ∨ op = 8 := by omega
set_option maxHeartbeats 8000000 in
theorem part_1 (t : Tm) (hop : t.op = 1) (ro : Nat) (m : Mem) : evL Tryz.prog AnT ro 163 [.c (encT t)] m = some (.c (.v (.int .i64 (partE t.op t.nm t.nu t.l.length))), m) := by
  refine evL_by (n := 86) (by kernel_rfl) rfl fn163 rfl rfl rfl rfl ?_
  rw [hop]
  cases hz : (t.nu != 0) with
  | true =>
    have e : partE 1 t.nm t.nu t.l.length = 7 := by
      have : t.nu ≠ 0 := by simpa using hz
      unfold partE; rw [if_neg (by omega), if_pos (.inr (.inl ⟨this, by omega, by omega, by omega⟩))]
    cases hb : (t.nm.toList == ByteArray.empty.toList) <;> simp only [go_sem, ↓reduceIte, hop, hb, hz, e, Int.cast_ofNat_Int, Int.reduceBEq, Int.reduceBNe, Int.reduceLT, Int.reduceGT, Int.reduceToNat, Int.reduceLE]
  | false =>
    have hnu : ¬ t.nu ≠ 0 := by simpa using hz
    have hneed : needsL.getD (1 : Int).toNat 0 = 0 := rfl
    rcases Nat.lt_trichotomy t.l.length 0 with h | h | h
    · omega
    · have d1 : decide ((t.l.length : Int) > 0) = false := dec_f (by omega)
      have d2 : ((t.l.length : Int) != 0) = false := bne_f (by omega)
      have e : partE 1 t.nm t.nu t.l.length = 0 := by
        unfold partE
        rw [if_neg (by omega), if_neg (fun h => h.elim (fun h => by omega) (fun h => h.elim (fun h => hnu h.1) (fun h => by omega)))]
        rw [hneed]
        exact if_neg (by omega)
      cases hb : (t.nm.toList == ByteArray.empty.toList) <;> simp only [go_sem, ↓reduceIte, hop, hb, hz, e, d1, d2, Int.cast_ofNat_Int, Int.reduceBEq, Int.reduceBNe, Int.reduceLT, Int.reduceGT, Int.reduceToNat, Int.reduceLE]
    · have d1 : decide ((t.l.length : Int) > 0) = true := dec_t (by omega)
      have d2 : ((t.l.length : Int) != 0) = true := bne_t (by omega)
      have e : partE 1 t.nm t.nu t.l.length = 12 := by
        unfold partE
        rw [if_neg (by omega), if_neg (fun h => h.elim (fun h => by omega) (fun h => h.elim (fun h => hnu h.1) (fun h => by omega)))]
        rw [hneed]
        exact if_pos (by omega)
      cases hb : (t.nm.toList == ByteArray.empty.toList) <;> simp only [go_sem, ↓reduceIte, hop, hb, hz, e, d1, d2, Int.cast_ofNat_Int, Int.reduceBEq, Int.reduceBNe, Int.reduceLT, Int.reduceGT, Int.reduceToNat, Int.reduceLE]
set_option maxHeartbeats 8000000 in
theorem part_2 (t : Tm) (hop : t.op = 2) (ro : Nat) (m : Mem) : evL Tryz.prog AnT ro 163 [.c (encT t)] m = some (.c (.v (.int .i64 (partE t.op t.nm t.nu t.l.length))), m) := by
  refine evL_by (n := 86) (by kernel_rfl) rfl fn163 rfl rfl rfl rfl ?_
  rw [hop]
  cases hb : (t.nm.toList == ByteArray.empty.toList) with
  | false =>
    have e : partE 2 t.nm t.nu t.l.length = 7 := by
      have := nm_empty.2 hb
      unfold partE; rw [if_neg (by omega), if_pos (.inl ⟨this, by omega, by omega⟩)]
    simp only [go_sem, ↓reduceIte, hop, hb, e, Int.cast_ofNat_Int, Int.reduceBEq, Int.reduceBNe, Int.reduceLT, Int.reduceGT, Int.reduceToNat, Int.reduceLE]
  | true =>
    have hnm : ¬ t.nm.toList ≠ [] := fun h => by rw [nm_empty.1 h] at hb; cases hb
    cases hl : decide (t.nu < 0) with
    | true =>
      have e : partE 2 t.nm t.nu t.l.length = 7 := by
        have : t.nu < 0 := of_decide_eq_true hl
        unfold partE; rw [if_neg (by omega), if_pos (.inr (.inr ⟨rfl, this⟩))]
      cases hz : (t.nu != 0) <;> simp only [go_sem, ↓reduceIte, hop, hb, hz, hl, e, Int.cast_ofNat_Int, Int.reduceBEq, Int.reduceBNe, Int.reduceLT, Int.reduceGT, Int.reduceToNat, Int.reduceLE]
    | false =>
      have hlt : ¬ t.nu < 0 := of_decide_eq_false hl
      have hneed : needsL.getD (2 : Int).toNat 0 = 0 := rfl
      rcases Nat.lt_trichotomy t.l.length 0 with h | h | h
      · omega
      · have d1 : decide ((t.l.length : Int) > 0) = false := dec_f (by omega)
        have d2 : ((t.l.length : Int) != 0) = false := bne_f (by omega)
        have e : partE 2 t.nm t.nu t.l.length = 0 := by
          unfold partE
          rw [if_neg (by omega), if_neg (fun h => h.elim (fun h => hnm h.1) (fun h => h.elim (fun h => by omega) (fun h => hlt h.2)))]
          rw [hneed]
          exact if_neg (by omega)
        cases hz : (t.nu != 0) <;> simp only [go_sem, ↓reduceIte, hop, hb, hz, hl, e, d1, d2, Int.cast_ofNat_Int, Int.reduceBEq, Int.reduceBNe, Int.reduceLT, Int.reduceGT, Int.reduceToNat, Int.reduceLE]
      · have d1 : decide ((t.l.length : Int) > 0) = true := dec_t (by omega)
        have d2 : ((t.l.length : Int) != 0) = true := bne_t (by omega)
        have e : partE 2 t.nm t.nu t.l.length = 12 := by
          unfold partE
          rw [if_neg (by omega), if_neg (fun h => h.elim (fun h => hnm h.1) (fun h => h.elim (fun h => by omega) (fun h => hlt h.2)))]
          rw [hneed]
          exact if_pos (by omega)
        cases hz : (t.nu != 0) <;> simp only [go_sem, ↓reduceIte, hop, hb, hz, hl, e, d1, d2, Int.cast_ofNat_Int, Int.reduceBEq, Int.reduceBNe, Int.reduceLT, Int.reduceGT, Int.reduceToNat, Int.reduceLE]
set_option maxHeartbeats 8000000 in
theorem part_3 (t : Tm) (hop : t.op = 3) (ro : Nat) (m : Mem) : evL Tryz.prog AnT ro 163 [.c (encT t)] m = some (.c (.v (.int .i64 (partE t.op t.nm t.nu t.l.length))), m) := by
  refine evL_by (n := 86) (by kernel_rfl) rfl fn163 rfl rfl rfl rfl ?_
  rw [hop]
  cases hz : (t.nu != 0) with
  | true =>
    have e : partE 3 t.nm t.nu t.l.length = 7 := by
      have : t.nu ≠ 0 := by simpa using hz
      unfold partE; rw [if_neg (by omega), if_pos (.inr (.inl ⟨this, by omega, by omega, by omega⟩))]
    cases hb : (t.nm.toList == ByteArray.empty.toList) <;> simp only [go_sem, ↓reduceIte, hop, hb, hz, e, Int.cast_ofNat_Int, Int.reduceBEq, Int.reduceBNe, Int.reduceLT, Int.reduceGT, Int.reduceToNat, Int.reduceLE]
  | false =>
    have hnu : ¬ t.nu ≠ 0 := by simpa using hz
    have hneed : needsL.getD (3 : Int).toNat 0 = 8 := rfl
    rcases Nat.lt_trichotomy t.l.length 8 with h | h | h
    · have d1 : decide ((t.l.length : Int) > 8) = false := dec_f (by omega)
      have d2 : ((t.l.length : Int) != 8) = true := bne_t (by omega)
      have e : partE 3 t.nm t.nu t.l.length = 0 := by
        unfold partE
        rw [if_neg (by omega), if_neg (fun h => h.elim (fun h => by omega) (fun h => h.elim (fun h => hnu h.1) (fun h => by omega)))]
        rw [hneed]
        exact if_neg (by omega)
      cases hb : (t.nm.toList == ByteArray.empty.toList) <;> simp only [go_sem, ↓reduceIte, hop, hb, hz, e, d1, d2, Int.cast_ofNat_Int, Int.reduceBEq, Int.reduceBNe, Int.reduceLT, Int.reduceGT, Int.reduceToNat, Int.reduceLE]
    · have d1 : decide ((t.l.length : Int) > 8) = false := dec_f (by omega)
      have d2 : ((t.l.length : Int) != 8) = false := bne_f (by omega)
      have e : partE 3 t.nm t.nu t.l.length = 0 := by
        unfold partE
        rw [if_neg (by omega), if_neg (fun h => h.elim (fun h => by omega) (fun h => h.elim (fun h => hnu h.1) (fun h => by omega)))]
        rw [hneed]
        exact if_neg (by omega)
      cases hb : (t.nm.toList == ByteArray.empty.toList) <;> simp only [go_sem, ↓reduceIte, hop, hb, hz, e, d1, d2, Int.cast_ofNat_Int, Int.reduceBEq, Int.reduceBNe, Int.reduceLT, Int.reduceGT, Int.reduceToNat, Int.reduceLE]
    · have d1 : decide ((t.l.length : Int) > 8) = true := dec_t (by omega)
      have d2 : ((t.l.length : Int) != 8) = true := bne_t (by omega)
      have e : partE 3 t.nm t.nu t.l.length = 12 := by
        unfold partE
        rw [if_neg (by omega), if_neg (fun h => h.elim (fun h => by omega) (fun h => h.elim (fun h => hnu h.1) (fun h => by omega)))]
        rw [hneed]
        exact if_pos (by omega)
      cases hb : (t.nm.toList == ByteArray.empty.toList) <;> simp only [go_sem, ↓reduceIte, hop, hb, hz, e, d1, d2, Int.cast_ofNat_Int, Int.reduceBEq, Int.reduceBNe, Int.reduceLT, Int.reduceGT, Int.reduceToNat, Int.reduceLE]
set_option maxHeartbeats 8000000 in
theorem part_4 (t : Tm) (hop : t.op = 4) (ro : Nat) (m : Mem) : evL Tryz.prog AnT ro 163 [.c (encT t)] m = some (.c (.v (.int .i64 (partE t.op t.nm t.nu t.l.length))), m) := by
  refine evL_by (n := 86) (by kernel_rfl) rfl fn163 rfl rfl rfl rfl ?_
  rw [hop]
  cases hb : (t.nm.toList == ByteArray.empty.toList) with
  | false =>
    have e : partE 4 t.nm t.nu t.l.length = 7 := by
      have := nm_empty.2 hb
      unfold partE; rw [if_neg (by omega), if_pos (.inl ⟨this, by omega, by omega⟩)]
    simp only [go_sem, ↓reduceIte, hop, hb, e, Int.cast_ofNat_Int, Int.reduceBEq, Int.reduceBNe, Int.reduceLT, Int.reduceGT, Int.reduceToNat, Int.reduceLE]
  | true =>
    have hnm : ¬ t.nm.toList ≠ [] := fun h => by rw [nm_empty.1 h] at hb; cases hb
    have hneed : needsL.getD (4 : Int).toNat 0 = 0 := rfl
    rcases Nat.lt_trichotomy t.l.length 0 with h | h | h
    · omega
    · have d1 : decide ((t.l.length : Int) > 0) = false := dec_f (by omega)
      have d2 : ((t.l.length : Int) != 0) = false := bne_f (by omega)
      have e : partE 4 t.nm t.nu t.l.length = 0 := by
        unfold partE
        rw [if_neg (by omega), if_neg (fun h => h.elim (fun h => hnm h.1) (fun h => h.elim (fun h => by omega) (fun h => by omega)))]
        rw [hneed]
        exact if_neg (by omega)
      cases hz : (t.nu != 0) <;> simp only [go_sem, ↓reduceIte, hop, hb, hz, e, d1, d2, Int.cast_ofNat_Int, Int.reduceBEq, Int.reduceBNe, Int.reduceLT, Int.reduceGT, Int.reduceToNat, Int.reduceLE]
    · have d1 : decide ((t.l.length : Int) > 0) = true := dec_t (by omega)
      have d2 : ((t.l.length : Int) != 0) = true := bne_t (by omega)
      have e : partE 4 t.nm t.nu t.l.length = 12 := by
        unfold partE
        rw [if_neg (by omega), if_neg (fun h => h.elim (fun h => hnm h.1) (fun h => h.elim (fun h => by omega) (fun h => by omega)))]
        rw [hneed]
        exact if_pos (by omega)
      cases hz : (t.nu != 0) <;> simp only [go_sem, ↓reduceIte, hop, hb, hz, e, d1, d2, Int.cast_ofNat_Int, Int.reduceBEq, Int.reduceBNe, Int.reduceLT, Int.reduceGT, Int.reduceToNat, Int.reduceLE]
set_option maxHeartbeats 8000000 in
theorem part_5 (t : Tm) (hop : t.op = 5) (ro : Nat) (m : Mem) : evL Tryz.prog AnT ro 163 [.c (encT t)] m = some (.c (.v (.int .i64 (partE t.op t.nm t.nu t.l.length))), m) := by
  refine evL_by (n := 86) (by kernel_rfl) rfl fn163 rfl rfl rfl rfl ?_
  rw [hop]
  cases hb : (t.nm.toList == ByteArray.empty.toList) with
  | false =>
    have e : partE 5 t.nm t.nu t.l.length = 7 := by
      have := nm_empty.2 hb
      unfold partE; rw [if_neg (by omega), if_pos (.inl ⟨this, by omega, by omega⟩)]
    simp only [go_sem, ↓reduceIte, hop, hb, e, Int.cast_ofNat_Int, Int.reduceBEq, Int.reduceBNe, Int.reduceLT, Int.reduceGT, Int.reduceToNat, Int.reduceLE]
  | true =>
    have hnm : ¬ t.nm.toList ≠ [] := fun h => by rw [nm_empty.1 h] at hb; cases hb
    cases hz : (t.nu != 0) with
    | true =>
      have e : partE 5 t.nm t.nu t.l.length = 7 := by
        have : t.nu ≠ 0 := by simpa using hz
        unfold partE; rw [if_neg (by omega), if_pos (.inr (.inl ⟨this, by omega, by omega, by omega⟩))]
      simp only [go_sem, ↓reduceIte, hop, hb, hz, e, Int.cast_ofNat_Int, Int.reduceBEq, Int.reduceBNe, Int.reduceLT, Int.reduceGT, Int.reduceToNat, Int.reduceLE]
    | false =>
      have hnu : ¬ t.nu ≠ 0 := by simpa using hz
      have hneed : needsL.getD (5 : Int).toNat 0 = 2 := rfl
      rcases Nat.lt_trichotomy t.l.length 2 with h | h | h
      · have d1 : decide ((t.l.length : Int) > 2) = false := dec_f (by omega)
        have d2 : ((t.l.length : Int) != 2) = true := bne_t (by omega)
        have e : partE 5 t.nm t.nu t.l.length = 12 := by
          unfold partE
          rw [if_neg (by omega), if_neg (fun h => h.elim (fun h => hnm h.1) (fun h => h.elim (fun h => hnu h.1) (fun h => by omega)))]
          rw [hneed]
          exact if_pos (by omega)
        simp only [go_sem, ↓reduceIte, hop, hb, hz, e, d1, d2, Int.cast_ofNat_Int, Int.reduceBEq, Int.reduceBNe, Int.reduceLT, Int.reduceGT, Int.reduceToNat, Int.reduceLE]
      · have d1 : decide ((t.l.length : Int) > 2) = false := dec_f (by omega)
        have d2 : ((t.l.length : Int) != 2) = false := bne_f (by omega)
        have e : partE 5 t.nm t.nu t.l.length = 0 := by
          unfold partE
          rw [if_neg (by omega), if_neg (fun h => h.elim (fun h => hnm h.1) (fun h => h.elim (fun h => hnu h.1) (fun h => by omega)))]
          rw [hneed]
          exact if_neg (by omega)
        simp only [go_sem, ↓reduceIte, hop, hb, hz, e, d1, d2, Int.cast_ofNat_Int, Int.reduceBEq, Int.reduceBNe, Int.reduceLT, Int.reduceGT, Int.reduceToNat, Int.reduceLE]
      · have d1 : decide ((t.l.length : Int) > 2) = true := dec_t (by omega)
        have d2 : ((t.l.length : Int) != 2) = true := bne_t (by omega)
        have e : partE 5 t.nm t.nu t.l.length = 12 := by
          unfold partE
          rw [if_neg (by omega), if_neg (fun h => h.elim (fun h => hnm h.1) (fun h => h.elim (fun h => hnu h.1) (fun h => by omega)))]
          rw [hneed]
          exact if_pos (by omega)
        simp only [go_sem, ↓reduceIte, hop, hb, hz, e, d1, d2, Int.cast_ofNat_Int, Int.reduceBEq, Int.reduceBNe, Int.reduceLT, Int.reduceGT, Int.reduceToNat, Int.reduceLE]
set_option maxHeartbeats 8000000 in
theorem part_6 (t : Tm) (hop : t.op = 6) (ro : Nat) (m : Mem) : evL Tryz.prog AnT ro 163 [.c (encT t)] m = some (.c (.v (.int .i64 (partE t.op t.nm t.nu t.l.length))), m) := by
  refine evL_by (n := 86) (by kernel_rfl) rfl fn163 rfl rfl rfl rfl ?_
  rw [hop]
  cases hb : (t.nm.toList == ByteArray.empty.toList) with
  | false =>
    have e : partE 6 t.nm t.nu t.l.length = 7 := by
      have := nm_empty.2 hb
      unfold partE; rw [if_neg (by omega), if_pos (.inl ⟨this, by omega, by omega⟩)]
    simp only [go_sem, ↓reduceIte, hop, hb, e, Int.cast_ofNat_Int, Int.reduceBEq, Int.reduceBNe, Int.reduceLT, Int.reduceGT, Int.reduceToNat, Int.reduceLE]
  | true =>
    have hnm : ¬ t.nm.toList ≠ [] := fun h => by rw [nm_empty.1 h] at hb; cases hb
    cases hz : (t.nu != 0) with
    | true =>
      have e : partE 6 t.nm t.nu t.l.length = 7 := by
        have : t.nu ≠ 0 := by simpa using hz
        unfold partE; rw [if_neg (by omega), if_pos (.inr (.inl ⟨this, by omega, by omega, by omega⟩))]
      simp only [go_sem, ↓reduceIte, hop, hb, hz, e, Int.cast_ofNat_Int, Int.reduceBEq, Int.reduceBNe, Int.reduceLT, Int.reduceGT, Int.reduceToNat, Int.reduceLE]
    | false =>
      have hnu : ¬ t.nu ≠ 0 := by simpa using hz
      have hneed : needsL.getD (6 : Int).toNat 0 = 2 := rfl
      rcases Nat.lt_trichotomy t.l.length 2 with h | h | h
      · have d1 : decide ((t.l.length : Int) > 2) = false := dec_f (by omega)
        have d2 : ((t.l.length : Int) != 2) = true := bne_t (by omega)
        have e : partE 6 t.nm t.nu t.l.length = 12 := by
          unfold partE
          rw [if_neg (by omega), if_neg (fun h => h.elim (fun h => hnm h.1) (fun h => h.elim (fun h => hnu h.1) (fun h => by omega)))]
          rw [hneed]
          exact if_pos (by omega)
        simp only [go_sem, ↓reduceIte, hop, hb, hz, e, d1, d2, Int.cast_ofNat_Int, Int.reduceBEq, Int.reduceBNe, Int.reduceLT, Int.reduceGT, Int.reduceToNat, Int.reduceLE]
      · have d1 : decide ((t.l.length : Int) > 2) = false := dec_f (by omega)
        have d2 : ((t.l.length : Int) != 2) = false := bne_f (by omega)
        have e : partE 6 t.nm t.nu t.l.length = 0 := by
          unfold partE
          rw [if_neg (by omega), if_neg (fun h => h.elim (fun h => hnm h.1) (fun h => h.elim (fun h => hnu h.1) (fun h => by omega)))]
          rw [hneed]
          exact if_neg (by omega)
        simp only [go_sem, ↓reduceIte, hop, hb, hz, e, d1, d2, Int.cast_ofNat_Int, Int.reduceBEq, Int.reduceBNe, Int.reduceLT, Int.reduceGT, Int.reduceToNat, Int.reduceLE]
      · have d1 : decide ((t.l.length : Int) > 2) = true := dec_t (by omega)
        have d2 : ((t.l.length : Int) != 2) = true := bne_t (by omega)
        have e : partE 6 t.nm t.nu t.l.length = 12 := by
          unfold partE
          rw [if_neg (by omega), if_neg (fun h => h.elim (fun h => hnm h.1) (fun h => h.elim (fun h => hnu h.1) (fun h => by omega)))]
          rw [hneed]
          exact if_pos (by omega)
        simp only [go_sem, ↓reduceIte, hop, hb, hz, e, d1, d2, Int.cast_ofNat_Int, Int.reduceBEq, Int.reduceBNe, Int.reduceLT, Int.reduceGT, Int.reduceToNat, Int.reduceLE]
set_option maxHeartbeats 8000000 in
theorem part_7 (t : Tm) (hop : t.op = 7) (ro : Nat) (m : Mem) : evL Tryz.prog AnT ro 163 [.c (encT t)] m = some (.c (.v (.int .i64 (partE t.op t.nm t.nu t.l.length))), m) := by
  refine evL_by (n := 86) (by kernel_rfl) rfl fn163 rfl rfl rfl rfl ?_
  rw [hop]
  cases hb : (t.nm.toList == ByteArray.empty.toList) with
  | false =>
    have e : partE 7 t.nm t.nu t.l.length = 7 := by
      have := nm_empty.2 hb
      unfold partE; rw [if_neg (by omega), if_pos (.inl ⟨this, by omega, by omega⟩)]
    simp only [go_sem, ↓reduceIte, hop, hb, e, Int.cast_ofNat_Int, Int.reduceBEq, Int.reduceBNe, Int.reduceLT, Int.reduceGT, Int.reduceToNat, Int.reduceLE]
  | true =>
    have hnm : ¬ t.nm.toList ≠ [] := fun h => by rw [nm_empty.1 h] at hb; cases hb
    cases hz : (t.nu != 0) with
    | true =>
      have e : partE 7 t.nm t.nu t.l.length = 7 := by
        have : t.nu ≠ 0 := by simpa using hz
        unfold partE; rw [if_neg (by omega), if_pos (.inr (.inl ⟨this, by omega, by omega, by omega⟩))]
      simp only [go_sem, ↓reduceIte, hop, hb, hz, e, Int.cast_ofNat_Int, Int.reduceBEq, Int.reduceBNe, Int.reduceLT, Int.reduceGT, Int.reduceToNat, Int.reduceLE]
    | false =>
      have hnu : ¬ t.nu ≠ 0 := by simpa using hz
      have hneed : needsL.getD (7 : Int).toNat 0 = 1 := rfl
      rcases Nat.lt_trichotomy t.l.length 1 with h | h | h
      · have d1 : decide ((t.l.length : Int) > 1) = false := dec_f (by omega)
        have d2 : ((t.l.length : Int) != 1) = true := bne_t (by omega)
        have e : partE 7 t.nm t.nu t.l.length = 12 := by
          unfold partE
          rw [if_neg (by omega), if_neg (fun h => h.elim (fun h => hnm h.1) (fun h => h.elim (fun h => hnu h.1) (fun h => by omega)))]
          rw [hneed]
          exact if_pos (by omega)
        simp only [go_sem, ↓reduceIte, hop, hb, hz, e, d1, d2, Int.cast_ofNat_Int, Int.reduceBEq, Int.reduceBNe, Int.reduceLT, Int.reduceGT, Int.reduceToNat, Int.reduceLE]
      · have d1 : decide ((t.l.length : Int) > 1) = false := dec_f (by omega)
        have d2 : ((t.l.length : Int) != 1) = false := bne_f (by omega)
        have e : partE 7 t.nm t.nu t.l.length = 0 := by
          unfold partE
          rw [if_neg (by omega), if_neg (fun h => h.elim (fun h => hnm h.1) (fun h => h.elim (fun h => hnu h.1) (fun h => by omega)))]
          rw [hneed]
          exact if_neg (by omega)
        simp only [go_sem, ↓reduceIte, hop, hb, hz, e, d1, d2, Int.cast_ofNat_Int, Int.reduceBEq, Int.reduceBNe, Int.reduceLT, Int.reduceGT, Int.reduceToNat, Int.reduceLE]
      · have d1 : decide ((t.l.length : Int) > 1) = true := dec_t (by omega)
        have d2 : ((t.l.length : Int) != 1) = true := bne_t (by omega)
        have e : partE 7 t.nm t.nu t.l.length = 12 := by
          unfold partE
          rw [if_neg (by omega), if_neg (fun h => h.elim (fun h => hnm h.1) (fun h => h.elim (fun h => hnu h.1) (fun h => by omega)))]
          rw [hneed]
          exact if_pos (by omega)
        simp only [go_sem, ↓reduceIte, hop, hb, hz, e, d1, d2, Int.cast_ofNat_Int, Int.reduceBEq, Int.reduceBNe, Int.reduceLT, Int.reduceGT, Int.reduceToNat, Int.reduceLE]
set_option maxHeartbeats 8000000 in
theorem part_8 (t : Tm) (hop : t.op = 8) (ro : Nat) (m : Mem) : evL Tryz.prog AnT ro 163 [.c (encT t)] m = some (.c (.v (.int .i64 (partE t.op t.nm t.nu t.l.length))), m) := by
  refine evL_by (n := 86) (by kernel_rfl) rfl fn163 rfl rfl rfl rfl ?_
  rw [hop]
  cases hb : (t.nm.toList == ByteArray.empty.toList) with
  | false =>
    have e : partE 8 t.nm t.nu t.l.length = 7 := by
      have := nm_empty.2 hb
      unfold partE; rw [if_neg (by omega), if_pos (.inl ⟨this, by omega, by omega⟩)]
    simp only [go_sem, ↓reduceIte, hop, hb, e, Int.cast_ofNat_Int, Int.reduceBEq, Int.reduceBNe, Int.reduceLT, Int.reduceGT, Int.reduceToNat, Int.reduceLE]
  | true =>
    have hnm : ¬ t.nm.toList ≠ [] := fun h => by rw [nm_empty.1 h] at hb; cases hb
    have hneed : needsL.getD (8 : Int).toNat 0 = 1 := rfl
    rcases Nat.lt_trichotomy t.l.length 1 with h | h | h
    · have d1 : decide ((t.l.length : Int) > 1) = false := dec_f (by omega)
      have d2 : ((t.l.length : Int) != 1) = true := bne_t (by omega)
      have e : partE 8 t.nm t.nu t.l.length = 12 := by
        unfold partE
        rw [if_neg (by omega), if_neg (fun h => h.elim (fun h => hnm h.1) (fun h => h.elim (fun h => by omega) (fun h => by omega)))]
        rw [hneed]
        exact if_pos (by omega)
      cases hz : (t.nu != 0) <;> simp only [go_sem, ↓reduceIte, hop, hb, hz, e, d1, d2, Int.cast_ofNat_Int, Int.reduceBEq, Int.reduceBNe, Int.reduceLT, Int.reduceGT, Int.reduceToNat, Int.reduceLE]
    · have d1 : decide ((t.l.length : Int) > 1) = false := dec_f (by omega)
      have d2 : ((t.l.length : Int) != 1) = false := bne_f (by omega)
      have e : partE 8 t.nm t.nu t.l.length = 0 := by
        unfold partE
        rw [if_neg (by omega), if_neg (fun h => h.elim (fun h => hnm h.1) (fun h => h.elim (fun h => by omega) (fun h => by omega)))]
        rw [hneed]
        exact if_neg (by omega)
      cases hz : (t.nu != 0) <;> simp only [go_sem, ↓reduceIte, hop, hb, hz, e, d1, d2, Int.cast_ofNat_Int, Int.reduceBEq, Int.reduceBNe, Int.reduceLT, Int.reduceGT, Int.reduceToNat, Int.reduceLE]
    · have d1 : decide ((t.l.length : Int) > 1) = true := dec_t (by omega)
      have d2 : ((t.l.length : Int) != 1) = true := bne_t (by omega)
      have e : partE 8 t.nm t.nu t.l.length = 12 := by
        unfold partE
        rw [if_neg (by omega), if_neg (fun h => h.elim (fun h => hnm h.1) (fun h => h.elim (fun h => by omega) (fun h => by omega)))]
        rw [hneed]
        exact if_pos (by omega)
      cases hz : (t.nu != 0) <;> simp only [go_sem, ↓reduceIte, hop, hb, hz, e, d1, d2, Int.cast_ofNat_Int, Int.reduceBEq, Int.reduceBNe, Int.reduceLT, Int.reduceGT, Int.reduceToNat, Int.reduceLE]
set_option maxHeartbeats 8000000 in
theorem part_evT (t : Tm) (ro : Nat) (m : Mem) : evL Tryz.prog AnT ro 163 [.c (encT t)] m = some (.c (.v (.int .i64 (partE t.op t.nm t.nu t.l.length))), m) := by
  by_cases h : t.op < 1 ∨ 8 < t.op
  · have e : partE t.op t.nm t.nu t.l.length = 7 := if_pos h
    rw [e]
    refine evL_by (n := 86) (by kernel_rfl) rfl fn163 rfl rfl rfl rfl ?_
    have n1 : (t.op == 1) = false := by simp; omega
    have n2 : (t.op == 2) = false := by simp; omega
    have n3 : (t.op == 3) = false := by simp; omega
    have n4 : (t.op == 4) = false := by simp; omega
    have n8 : (t.op == 8) = false := by simp; omega
    rcases h with h | h
    · have d1 : decide (t.op < 1) = true := dec_t h
      simp only [go_sem, ↓reduceIte, n1, n2, n3, n4, n8, d1]
    · have d1 : decide (t.op < 1) = false := dec_f (by omega)
      have d2 : decide (t.op > 8) = true := dec_t (by omega)
      simp only [go_sem, ↓reduceIte, n1, n2, n3, n4, n8, d1, d2]
  · rcases range8 h with h | h | h | h | h | h | h | h
    · exact part_1 t h ro m
    · exact part_2 t h ro m
    · exact part_3 t h ro m
    · exact part_4 t h ro m
    · exact part_5 t h ro m
    · exact part_6 t h ro m
    · exact part_7 t h ro m
    · exact part_8 t h ro m
end Go.Eng
