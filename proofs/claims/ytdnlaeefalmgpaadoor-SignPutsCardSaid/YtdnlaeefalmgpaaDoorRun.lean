import Derived.Test.YtdnlaeefalmgpaaDoorProg
import Derived.Test.YtdnlaeefalmgpaaDoorWMore
import Derived.Test.YtdnlaeefalmgpaaDoorWWords
import Derived.Test.YtdnlaeefalmgpaaDoorWLast
import Derived.Test.YtdnlaeefalmgpaaDoorSpec
import Derived.WalkKit
import Derived.Deep.LoopGhost
namespace Go.Proofs.YtdnlaeefalmgpaaDoor.Aux
set_option linter.unusedVariables false
set_option linter.unusedSimpArgs false
open Go.RowKit Go.Proofs.YtdnlaeefalmgpaaDoorW.PrintWords Go.Proofs.YtdnlaeefalmgpaaDoorW.PrintLast Go.Proofs.YtdnlaeefalmgpaaDoorW.PrintMore Go.Proofs.YtdnlaeefalmgpaaDoor.Spec

def runFrom (p : Int → Bool) (s : ByteArray) (n : Int) : Nat := runL p (s.data.toList.drop n.toNat)
theorem size_list (s : ByteArray) : s.data.toList.length = s.size := Array.length_toList
theorem runFrom_end (p : Int → Bool) (s : ByteArray) (n : Int) (h : (s.size : Int) ≤ n) : runFrom p s n = 0 := by
  have hz := size_list s
  unfold runFrom runL
  rw [List.drop_eq_nil_of_le (by omega)]; rfl
theorem runFrom_step (p : Int → Bool) (s : ByteArray) (n : Int) (h0 : 0 ≤ n) (h : n < (s.size : Int)) : runFrom p s n = if p (bt s n) then runFrom p s (n + 1) + 1 else 0 := by
  have hz := size_list s
  have hl : n.toNat < s.data.toList.length := by omega
  have hb : bt s n = b2i s.data.toList[n.toNat] := by
    unfold bt b2i
    rw [dif_pos (by omega)]; rfl
  unfold runFrom runL
  rw [show (n + 1).toNat = n.toNat + 1 by omega, List.drop_eq_getElem_cons hl, List.takeWhile_cons, hb]
  split <;> rfl
theorem ret_int {k : IntKind} {a b : Int} (h : a = b) : Ending.returned (.int k a) = .returned (.int k b) := by rw [h]
theorem drawn_n (w : World) (n : Nat) : Drawn0 w (w.drewN n) := ⟨⟨n, rfl⟩⟩
theorem drawn_from {w w' : World} {m : Nat} (h : Drawn0 (w.drewN m) w') : Drawn0 w w' := by
  obtain ⟨n, rfl⟩ := h
  rw [World.drewN_drewN]
  exact drawn_n _ _

set_option maxHeartbeats 800000 in
theorem token_run.any (g : Nat) (p : Int → Bool) (eg : ∀ args w, (callFunc g args).run Tryd.prog w = .ok (.enter g args) w)
    (hg : ∀ (c : Int) (w : World), Calls Tryd.prog g #[.int .u8 c] w fun e w' => e = .returned (.bool (p c)) ∧ Drawn0 w w')
    (s : ByteArray) (i : Int) (w : World) (h0 : 0 ≤ i) (h1 : i ≤ (s.size : Int)) (hs : s.size ≤ 9223372036854775807) :
    Calls Tryd.prog 54 #[.string s, .int .i64 i, .func (.func g) #[] #[]] w fun e w' => e = .returned (.int .i64 (runFrom p s i)) ∧ Drawn0 w w' := by
  have HG := Aside0.mk hg
  clear hg
  go_enter Tryd.func54, Tryd.ntmps54
  go_wp2
  go_loopw [7] (fun v w' => ∃ n : Int, v = .int .i64 n ∧ i ≤ n ∧ n ≤ (s.size : Int) ∧ Aside0 (n + runFrom p s n = i + runFrom p s i) ∧ Drawn0 w w') (fun v _ => s.size - (intOf v).toNat)
  case atStart => exact ⟨i, rfl, Int.le_refl _, h1, ⟨rfl⟩, Drawn0.refl _⟩
  case round =>
    obtain ⟨n, rfl, hi, hn, HR, ⟨m, rfl⟩⟩ := hrel
    by_cases hlt : n < (s.size : Int)
    · have hst := runFrom_step p s n (by omega) hlt
      have hx := bt_at s n
      have p4 : 0 ≤ n := by omega
      cases hp : p (bt s n)
      · rw [hp] at hst
        have HS := Aside0.mk hst
        have HP := Aside0.mk hp
        clear hst hp
        go_wp2_with fail
        refine (HG.out (bt s n) _).mono ?_
        rintro e w' ⟨rfl, ⟨nd, rfl⟩⟩
        rw [HP.out]
        go_wp2
        go_ret
        have h2 := HR.out
        have h3 := HS.out
        exact ⟨ret_int (by simp at h3; omega), drawn_n _ _⟩
      · rw [hp] at hst
        have HS := Aside0.mk hst
        have HP := Aside0.mk hp
        clear hst hp
        go_wp2_with fail
        refine (HG.out (bt s n) _).mono ?_
        rintro e w' ⟨rfl, ⟨nd, rfl⟩⟩
        rw [HP.out]
        go_wp2
        go_roundw
        case rel => exact ⟨n + 1, by go_num, by omega, by omega, ⟨by have h2 := HR.out; have h3 := HS.out; simp at h3; omega⟩, drawn_n _ _⟩
        case measure => simp [intOf]; omega
    · go_wp2
      go_ret
      have h2 := HR.out
      have h3 := runFrom_end p s n (by omega)
      exact ⟨ret_int (by omega), drawn_n _ _⟩
def idxFrom {α : Type} (p : α → Bool) : List α → Int → Int
  | [], _ => -1
  | x :: l, i => if p x then i else idxFrom p l (i + 1)
def idxBy {α : Type} (p : α → Bool) (l : List α) : Int := idxFrom p l 0
theorem idxFrom_step (p : ByteArray → Bool) (l : List ByteArray) (k : Nat) (h : k < l.length) :
    idxFrom p (l.drop k) (k : Int) = if p (rdOf ByteArray.empty l (k : Int)) then (k : Int) else idxFrom p (l.drop (k + 1)) ((k + 1 : Nat) : Int) := by
  rw [List.drop_eq_getElem_cons h, idxFrom]
  have : rdOf ByteArray.empty l (k : Int) = l[k] := by
    unfold rdOf
    rw [Int.toNat_natCast, List.getD, List.getElem?_eq_getElem h]; rfl
  rw [this]; rfl
end Go.Proofs.YtdnlaeefalmgpaaDoor.Aux
