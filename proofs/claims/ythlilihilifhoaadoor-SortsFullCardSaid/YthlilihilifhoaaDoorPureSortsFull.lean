/-
  Proved: as many sorts may be put as there may be, one by one; then there is no room.
-/
import Derived.Test.YthlilihilifhoaaDoorPureSorts
import Derived.Test.YthlilihilifhoaaDoorPrint8
import Derived.Test.YthlilihilifhoaaDoorPrint9
namespace Go.Proofs.YthlilihilifhoaaDoor.Pure
set_option linter.unusedVariables false
set_option linter.unusedSimpArgs false
open Go.RowKit Go.Proofs.YthlilihilifhoaaDoor.Print Go.Proofs.YthlilihilifhoaaDoor.Spec Go.Proofs.YthlilihilifhoaaDoor.Aux Go.Proofs.YthlilihilifhoaaDoorW.PrintWords Go.Proofs.YthlilihilifhoaaDoorW.PrintLast Go.Proofs.YthlilihilifhoaaDoorW.PrintMore

def digB (i : Nat) : ByteArray := if i < 10 then ⟨#[UInt8.ofNat (48 + i)]⟩ else ⟨#[UInt8.ofNat (48 + i / 10), UInt8.ofNat (48 + i % 10)]⟩
def nmB (i : Nat) : ByteArray := (⟨#[115]⟩ : ByteArray) ++ digB i
def lstB (i : Nat) : List ByteArray := (List.range (min i 64)).map nmB
theorem digits_80 : ∀ i < 80, sequiturbase_Digits.f 10 ((i : Nat) : Int) = some (digB i) := by decide +kernel
theorem digits_ev (i : Nat) (h : i < 80) : Ev (fun k => sequiturbase_Digits.f k (i : Int)) (digB i) := Ev.of (k := 10) (fun k => sequiturbase_Digits.mono _ k) (digits_80 i h)
theorem dig_size : ∀ i < 80, (digB i).size ≤ 2 := by decide +kernel
theorem put_80 : ∀ i < 80, putS (lstB i) (nmB i) = if i < 64 then (lstB (i + 1), 0) else ([], 2) := by decide +kernel
theorem right_80 : ∀ i < 80, rightS (lstB i) = 0 := by decide +kernel
theorem lst_len (i : Nat) : (lstB i).length = min i 64 := by simp [lstB]
theorem lst_stay (i : Nat) (h : 64 ≤ i) : lstB (i + 1) = lstB i := by
  unfold lstB
  rw [show min (i + 1) 64 = min i 64 by omega]
theorem full_end (a0 : Int) (n : Nat) (hn : n < 80) (h0 : wrap64 (Int.tmod a0 80) = (n : Int)) : Ev (fun k => sequiturlaw05_SortsFull.l0 k a0 (lstB n) n n) true := by
  have hl := lst_len n
  have hr := right_80 n hn
  generalize lstB n = l at hl hr ⊢
  have hlm : l.length ≤ maxLen := by unfold maxLen; omega
  obtain ⟨K1, e1⟩ : ∃ K, ∀ k, K ≤ k → sorts_Right.f k l = some (rightS l) := right_ev l hlm
  have w1 : wrap64 (65 - (l.length : Int)) = ((65 - l.length : Nat) : Int) := by rw [wrap_in _ (by omega) (by omega)]; omega
  have hlen : (l ++ List.replicate (65 - l.length) (⟨#[]⟩ : ByteArray)).length = 65 := by rw [List.length_append, List.length_replicate]; omega
  have hr2 : rightS (l ++ List.replicate (65 - l.length) (⟨#[]⟩ : ByteArray)) = 2 := by unfold rightS; rw [if_pos (by omega)]
  obtain ⟨K2, e2⟩ : ∃ K, ∀ k, K ≤ k → sorts_Right.f k (l ++ List.replicate (65 - l.length) (⟨#[]⟩ : ByteArray)) = some (rightS (l ++ List.replicate (65 - l.length) (⟨#[]⟩ : ByteArray))) := right_ev _ (by unfold maxLen; omega)
  obtain ⟨K3, e3⟩ : ∃ K, ∀ k, K ≤ k → sequiturlaw05_alive.f k = some true := alive_ev
  refine ⟨K1 + K2 + K3 + 1, fun k hk => ?_⟩
  obtain ⟨k, rfl⟩ : ∃ m, k = m + 1 := ⟨k - 1, by omega⟩
  replace e1 := e1 k (by omega)
  replace e2 := e2 k (by omega)
  replace e3 := e3 k (by omega)
  show sequiturlaw05_SortsFull.l0 (k + 1) a0 l n n = some true
  have hmn : (l.length : Int) = mn (n : Int) 64 := by unfold mn; split <;> omega
  rw [sequiturlaw05_SortsFull.l0, if_neg (by omega), h0, if_pos hmn, e1, Option.bind_some, if_pos hr, w1, Int.toNat_natCast]
  rw [if_pos (Int.natCast_nonneg _), if_pos (show l.length + (65 - l.length) < 8796093022208 by clear w1 h0; omega), e2, Option.bind_some, if_pos hr2, e3, Option.bind_some]
theorem full_loop (a0 : Int) (n : Nat) (hn : n < 80) (h0 : wrap64 (Int.tmod a0 80) = (n : Int)) : ∀ (d i : Nat), i + d = n → Ev (fun k => sequiturlaw05_SortsFull.l0 k a0 (lstB i) n i) true
  | 0, i, h => by
    obtain rfl : i = n := by omega
    exact full_end a0 i hn h0
  | d + 1, i, h => by
    obtain ⟨K1, e1⟩ : ∃ K, ∀ k, K ≤ k → sequiturbase_Digits.f k (i : Int) = some (digB i) := digits_ev i (by omega)
    have hl := lst_len i
    obtain ⟨K2, e2⟩ : ∃ K, ∀ k, K ≤ k → sorts_Put.f k (lstB i) (nmB i) = some (putS (lstB i) (nmB i)) := put_ev _ _ (by unfold maxLen; omega)
    obtain ⟨K3, e3⟩ : ∃ K, ∀ k, K ≤ k → sequiturlaw05_SortsFull.l0 k a0 (lstB (i + 1)) n ((i + 1 : Nat) : Int) = some true := full_loop a0 n hn h0 d (i + 1) (by omega)
    have hp := put_80 i (by omega)
    have hst := lst_stay i
    have hds := dig_size i (by omega)
    refine ⟨K1 + K2 + K3 + 2, fun k hk => ?_⟩
    obtain ⟨k, rfl⟩ : ∃ m, k = m + 2 := ⟨k - 2, by omega⟩
    replace e1 := e1 (k + 1) (by omega)
    replace e2 := e2 (k + 1) (by omega)
    replace e3 := e3 k (by omega)
    show sequiturlaw05_SortsFull.l0 (k + 1 + 1) a0 (lstB i) n i = some true
    unfold nmB at e2 hp
    generalize lstB i = l at *
    generalize lstB (i + 1) = l' at *
    generalize digB i = g at *
    clear h0
    rw [sequiturlaw05_SortsFull.l0, if_pos (by omega), e1, Option.bind_some, if_pos (by omega), e2, hp, Option.bind_some]
    by_cases hi : i < 64
    · rw [if_pos hi, if_pos rfl, if_pos (by omega), sequiturlaw05_SortsFull.j1, if_neg (by decide), if_pos rfl, wrap_succ i (by omega), e3]
    · rw [if_neg hi, if_neg (by decide), if_neg (by omega), show (((([] : List ByteArray), (2 : Int)).2 != 2)) = false from rfl, sequiturlaw05_SortsFull.j1, if_neg (by decide), if_neg (by decide), wrap_succ i (by omega), ← hst (by omega), e3]
theorem SortsFull : sequiturlaw05_SortsFull.Pure := by
  intro a0 hw
  refine Ev.rounds (g := fun k => sequiturlaw05_SortsFull.f k a0) ?_
  have hb : 0 ≤ a0 ∧ a0 ≤ 255 := by
    simp [Lit.wf, IntKind.min, IntKind.max, IntKind.signed, IntKind.bits] at hw
    omega
  have h1 : Int.tmod a0 80 = a0 % 80 := Int.tmod_eq_emod_of_nonneg hb.1
  have h2 : wrap64 (Int.tmod a0 80) = (((a0 % 80).toNat : Nat) : Int) := by
    rw [h1, wrap_in _ (by omega) (by omega)]; omega
  unfold sequiturlaw05_SortsFull.f
  rw [h2]
  exact full_loop a0 _ (by omega) h2 _ 0 (Nat.zero_add _)
end Go.Proofs.YthlilihilifhoaaDoor.Pure
