import Derived.Test.YtdnlaeefalmgpaaDoorProg
import Derived.Test.YtdnlaeefalmgpaaDoorWMore
import Derived.Test.YtdnlaeefalmgpaaDoorWWords
import Derived.Test.YtdnlaeefalmgpaaDoorWLast
import Derived.Test.YtdnlaeefalmgpaaDoorSpec
import Derived.WalkKit
import Derived.Deep.LoopGhost
import Derived.Test.YtdnlaeefalmgpaaDoorLaid
import Derived.Test.YtdnlaeefalmgpaaDoorShelf
namespace Go.Proofs.YtdnlaeefalmgpaaDoor.Aux
set_option linter.unusedVariables false
set_option linter.unusedSimpArgs false
open Go.RowKit Go.Proofs.YtdnlaeefalmgpaaDoorW.PrintWords Go.Proofs.YtdnlaeefalmgpaaDoorW.PrintLast Go.Proofs.YtdnlaeefalmgpaaDoorW.PrintMore Go.Proofs.YtdnlaeefalmgpaaDoor.Spec

def fieldsB (s : ByteArray) : List ByteArray := (Lib.fields s.data.toList).map fun l => ⟨l.toArray⟩
def asciiB (s : ByteArray) : Bool := decide (s.size < 4294967281) && s.data.toList.all (fun b => decide (b.toNat < 128)) && decide ((fieldsB s).length ≤ maxLen)
theorem Fields.any (s : ByteArray) (w : World) (hLa : LaidW w) (h : asciiB s = true) :
    Calls Tryd.prog 62 #[.string s] w fun e w' => ∃ v0_ : Value, e = .returned (v0_) ∧ Kd.R Kd.string 9 w' w.heap.size (fun _ => True) v0_ (fieldsB s) ∧ Below w.heap.size w w' := by
  simp only [asciiB, Bool.and_eq_true, decide_eq_true_eq, List.all_eq_true] at h
  obtain ⟨⟨h1, h2⟩, h3⟩ := h
  refine (Tryd.strings_Fields_laid s w h1 (fun j b hb => h2 b (List.mem_of_getElem? hb)) hLa).mono ?_
  rintro e w' ⟨rfl, rfl⟩
  refine ⟨_, rfl, Kd.R_of_own ?_ (fun _ _ => trivial), (Below.refl _ _).alloc (Nat.le_refl _) _⟩
  have hl : (Lib.fields s.data.toList).length = (fieldsB s).length := by simp [fieldsB]
  have hc : ((Lib.fields s.data.toList).map fun l => Value.string ⟨l.toArray⟩) = encs Value.string (fieldsB s) := by simp [encs, fieldsB, Function.comp_def]
  rw [hl, hc]
  have h4 := World.ownsRow_lit (base := w.heap.size) (e := 9) (size := 1) w (encs Value.string (fieldsB s)).toArray (fieldsB s).length (Nat.le_refl _) h3 (by simp [encs])
  simpa using h4
end Go.Proofs.YtdnlaeefalmgpaaDoor.Aux
