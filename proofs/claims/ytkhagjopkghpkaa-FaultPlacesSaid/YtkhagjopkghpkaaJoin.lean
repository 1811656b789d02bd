/-
  Contract of strings.Join, as an external of the printed walks.
-/
import Derived.Test.YtkhagjopkghpkaaProg
import Derived.Test.YtkhagjopkghpkaaWMore
import Derived.Test.YtkhagjopkghpkaaWWords
import Derived.Test.YtkhagjopkghpkaaWLast
import Derived.Test.YtkhagjopkghpkaaSpec
import Derived.WalkKit
import Derived.Deep.LoopGhost
import Derived.Test.YtkhagjopkghpkaaShelf
namespace Go.Proofs.Ytkhagjopkghpkaa.Aux
set_option linter.unusedVariables false
set_option linter.unusedSimpArgs false
open Go.RowKit Go.Proofs.YtkhagjopkghpkaaW.PrintWords Go.Proofs.YtkhagjopkghpkaaW.PrintLast Go.Proofs.YtkhagjopkghpkaaW.PrintMore Go.Proofs.Ytkhagjopkghpkaa.Spec

def joinB (l : List ByteArray) (sep : ByteArray) : ByteArray := ⟨(Lib.join (l.map (·.data.toList)) sep.data.toList).toArray⟩
theorem Join.any (A : Option Addr) (c : Nat) (l : List ByteArray) (sep : ByteArray) (w : World) (hr : Kd.C Kd.string w A l.length l) (hc : l.length ≤ c)
    (h1 : l.length ≤ 140737488355328) (h2 : (Lib.join (l.map (·.data.toList)) sep.data.toList).length ≤ 140737488355328) :
    Calls Try.prog 77 #[.slice A l.length c, .string sep] w fun e w' => e = .returned (.string (joinB l sep)) ∧ Below w.heap.size w w' := by
  rcases Nat.eq_zero_or_pos l.length with h0 | h0
  · obtain rfl : l = [] := List.length_eq_zero_iff.1 h0
    exact (Try.strings_Join_none A c sep w).mono fun e w' ⟨he, hw⟩ => ⟨he, hw ▸ Below.refl _ _⟩
  · obtain ⟨ad, rfl, hcells⟩ := hr.2.2 h0
    have hx : ∀ (j : Nat) x, l[j]? = some x → w.cell? (ad.add j) = some (.string x) := by
      intro j x hj
      obtain ⟨cs, hl, hp, hi⟩ := hcells j x hj
      obtain rfl : cs = [Value.string x] := hp
      simpa [Kd.string, Kd.scalar] using hi 0 _ rfl
    obtain ⟨bk, o, p⟩ := ad
    have hp0 := hx 0 _ (List.getElem?_eq_getElem h0)
    simp only [Addr.add, if_true] at hp0
    obtain rfl : p = none := by
      unfold World.cell? at hp0
      revert hp0
      cases p <;> simp <;> split <;> simp
    have hbk : bk < w.heap.size := by
      rcases Nat.lt_or_ge bk w.heap.size with h | h
      · exact h
      · unfold World.cell? at hp0
        rw [show w.heap[(⟨bk, o, none⟩ : Addr).block]? = none by simpa using h] at hp0
        simp at hp0
    refine Try.strings_Join bk o c l sep w (fun j x hj => ?_) hbk h1 hc h2
    have := hx j x hj
    unfold Addr.add at this
    split at this
    · subst_vars; exact this
    · exact this
end Go.Proofs.Ytkhagjopkghpkaa.Aux
