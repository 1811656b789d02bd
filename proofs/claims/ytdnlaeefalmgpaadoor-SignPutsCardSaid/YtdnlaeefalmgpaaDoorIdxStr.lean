import Derived.Test.YtdnlaeefalmgpaaDoorProg
import Derived.Test.YtdnlaeefalmgpaaDoorWMore
import Derived.Test.YtdnlaeefalmgpaaDoorRun
import Derived.WalkKit
import Derived.Deep.LoopGhost
import Derived.Deep.QuietTactic
import Derived.BigQuiet

namespace Go.Proofs.YtdnlaeefalmgpaaDoor.Aux
set_option linter.unusedVariables false
set_option linter.unusedSimpArgs false
open Go.RowKit Go.Proofs.YtdnlaeefalmgpaaDoorW.PrintWords Go.Proofs.YtdnlaeefalmgpaaDoorW.PrintLast Go.Proofs.YtdnlaeefalmgpaaDoorW.PrintMore Go.Proofs.YtdnlaeefalmgpaaDoor.Spec

set_option maxHeartbeats 800000 in
theorem IndexFunc_str.any (g : Nat) (v : Value) (p : ByteArray → Bool) (eg : ∀ args w, (callFunc g args).run Tryd.prog w = .ok (.enter g args) w)
    (A : Option Addr) (c : Nat) (l : List ByteArray) (w : World) (hr : Kd.C Kd.string w A l.length l) (hc : l.length ≤ c)
    (hg : ∀ (s : ByteArray) (m : Nat), Calls Tryd.prog g #[.string s, v] (w.drewN m) fun e w' => e = .returned (.bool (p s)) ∧ Drawn0 w w') :
    Calls Tryd.prog 58 #[.slice A l.length c, .func (.func g) #[] #[v]] w fun e w' => e = .returned (.int .i64 (idxBy p l)) ∧ Drawn0 w w' := by
  have hz : l.length ≤ 9223372036854775807 := hr.2.1
  have HG := Aside0.mk hg
  have HR := Aside0.mk hr
  clear hg hr
  go_enter Tryd.func58, Tryd.ntmps58
  go_wp2
  go_loopw [8] (fun u w' => ∃ k : Nat, u = .int .i64 k ∧ k ≤ l.length ∧ Aside0 (idxBy p l = idxFrom p (l.drop k) k) ∧ Drawn0 w w') (fun u _ => l.length - (intOf u).toNat)
  case atStart => exact ⟨0, rfl, Nat.zero_le _, ⟨rfl⟩, Drawn0.refl _⟩
  case round =>
    obtain ⟨k, rfl, hk, HI, ⟨m, rfl⟩⟩ := hrel
    by_cases hlt : k < l.length
    · have hst := idxFrom_step p l k hlt
      obtain ⟨ad, rfl, hx⟩ := Kd.at_string HR.out (k : Int) (by omega) (by omega)
      rw [Int.toNat_natCast] at hx
      obtain ⟨s, hs⟩ : ∃ s, s = rdOf ByteArray.empty l (k : Int) := ⟨_, rfl⟩
      rw [← hs] at hx hst
      clear hs
      cases hp : p s
      · have HP := Aside0.mk hp
        have HS := Aside0.mk (hst.trans (by rw [hp]))
        clear hst hp
        go_wp2_with fail
        refine (HG.out s m).mono ?_
        rintro e w' ⟨rfl, ⟨nd, rfl⟩⟩
        rw [HP.out]
        go_wp2
        go_roundw
        case rel => exact ⟨k + 1, by go_num, by omega, ⟨HI.out.trans HS.out⟩, drawn_n _ _⟩
        case measure => simp [intOf]; omega
      · have HP := Aside0.mk hp
        have HS := Aside0.mk (hst.trans (by rw [hp]))
        clear hst hp
        go_wp2_with fail
        refine (HG.out s m).mono ?_
        rintro e w' ⟨rfl, ⟨nd, rfl⟩⟩
        rw [HP.out]
        go_wp2
        go_ret
        exact ⟨ret_int (HI.out.trans HS.out).symm, drawn_n _ _⟩
    · obtain rfl : k = l.length := by omega
      go_wp2
      go_ret
      exact ⟨ret_int (by rw [HI.out, List.drop_length]; rfl), drawn_n _ _⟩
end Go.Proofs.YtdnlaeefalmgpaaDoor.Aux
