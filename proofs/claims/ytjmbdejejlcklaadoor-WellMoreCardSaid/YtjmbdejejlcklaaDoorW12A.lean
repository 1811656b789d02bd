-- own work: an evaluator of the program's code, and what it answers
import Derived.Test.YtjmbdejejlcklaaDoorWellB
set_option maxRecDepth 100000
set_option linter.unusedVariables false
set_option linter.unusedSimpArgs false
namespace Go.Eng
open Go Go.Proofs
def sG : Sg := ⟨[⟨#[65]⟩, ⟨#[66]⟩], [⟨⟨#[102]⟩, [⟨#[65]⟩], ⟨#[65]⟩⟩]⟩
def vG (b : ByteArray) : List Va := [⟨⟨#[120]⟩, b⟩]
def tG : Tm := .mk 3 ⟨#[102]⟩ 0 [.mk 1 ⟨#[120]⟩ 0 []]
theorem okG : okT tG := .mk tG (by decide) (by decide) (by decide) (by decide) (by
  intro x hx
  obtain rfl : x = .mk 1 ⟨#[120]⟩ 0 [] := by simpa [tG, Tm.l] using hx
  exact .mk _ (by decide) (by decide) (by decide) (by decide) (fun y hy => by simp [Tm.l] at hy))
theorem goes1 : withinW sG (vG ⟨#[66]⟩) [] tG = (noS, [0], 11) := by kernel_rfl
theorem goes2 : withinW sG (vG ⟨#[65]⟩) [] tG = (⟨#[65]⟩, [], 0) := by kernel_rfl
theorem beqA : ((⟨#[65]⟩ : ByteArray).toList == (⟨#[65]⟩ : ByteArray).toList) = true := by kernel_rfl
set_option maxHeartbeats 8000000 in
theorem goes_ev (ro : Nat) (m : Mem) (hro : ro ≤ m.length) : evL Tryd.prog An ro 11 [] m = some (.c (.v (.bool true)), m) := by
  refine evL_by (n := 57) (by kernel_rfl) rfl fn11 rfl rfl rfl rfl ?_
  have hro1 : ro ≤ m.length + 1 := by omega
  have h1 := fun ro m hro => f13_ev sG (vG ⟨#[66]⟩) tG (by decide) (by decide) okG ro m hro
  have h2 := fun ro m hro => f13_ev sG (vG ⟨#[65]⟩) tG (by decide) (by decide) okG ro m hro
  have h3 := fun ro m => f15_ev [0] [0] (by decide) (by decide) ro m
  have e3 : intsB [0] [0] = true := by decide
  rw [goes1] at h1
  rw [goes2] at h2
  simp only [sG, vG, tG, encS, encF, encV, encT_mk, cS, cI, List.map_cons, List.map_nil, encN, noS, e3] at h1 h2 h3
  simp only [go_sem, ↓reduceIte, h1, h2, h3, hro, hro1, beqA, Int.cast_ofNat_Int, Int.reduceBEq]
end Go.Eng
