/-
  A world for the witness: the settled one, the listed variables holding what their initialisers lay.
-/
import Derived.Test.YtfbocehdhmpnaaaDoorRows
import Derived.Test.YtfbocehdhmpnaaaDoorLaidNum
import Derived.Deep.DeepHandedRow
import Derived.Deep.DeepWitnessRowRef
import Derived.Lib.LaidTab
import Derived.LaidLaws
namespace Go.Proofs.YtfbocehdhmpnaaaDoor.Aux
set_option linter.unusedVariables false
open Go.RowKit

def cellsOfData : DataW Unit → Array Value
  | .agg l => (l.map fun | .lit (.int k v) => Value.int k v | _ => Value.bool false).toArray
  | _ => #[]
def textOfErr : DataW Unit → Value
  | .iface _ (.ptr (.agg [.lit (.string s)])) => .string ⟨s.toArray⟩
  | _ => .bool false
noncomputable def laidWorld (os : Os) : World :=
  let N := (World.settled Tryd.prog os).heap.size
  let w0 := World.holding Tryd.prog os ⟨#[
    .cells #[textOfErr Rows.laid_strconv_ErrRange] 75,
    .cells #[textOfErr Rows.laid_strconv_ErrSyntax] 75], #[], []⟩
  let put (h : Array Obj) (g : Nat) (cs : Array Value) : Array Obj := h.modify g fun
    | .cells _ t frozen => .cells cs t frozen
    | o => o
  let h1 := put w0.heap 3 (cellsOfData Rows.laid_math_bits_deBruijn32tab)
  let h2 := put h1 4 (cellsOfData Rows.laid_math_bits_deBruijn64tab)
  let h3 := put h2 0 (cellsOfData Rows.laid_internal_strconv_uint64pow10)
  let h4 := put h3 2 #[.iface 73 (.pointer (some ⟨N, 0, none⟩))]
  let h5 := put h4 1 #[.iface 73 (.pointer (some ⟨N + 1, 0, none⟩))]
  { w0 with heap := h5 }
def laidList : List (String × DataW Unit) := [("math/bits.deBruijn32tab", Rows.laid_math_bits_deBruijn32tab), ("math/bits.deBruijn64tab", Rows.laid_math_bits_deBruijn64tab), ("internal/strconv.uint64pow10", Rows.laid_internal_strconv_uint64pow10), ("strconv.ErrRange", Rows.laid_strconv_ErrRange), ("strconv.ErrSyntax", Rows.laid_strconv_ErrSyntax)]
theorem laid_met (os : Os) (args : Array Value) :
    laidMet Tryd.prog [("math/bits.deBruijn32tab", Rows.laid_math_bits_deBruijn32tab), ("math/bits.deBruijn64tab", Rows.laid_math_bits_deBruijn64tab), ("internal/strconv.uint64pow10", Rows.laid_internal_strconv_uint64pow10), ("strconv.ErrRange", Rows.laid_strconv_ErrRange), ("strconv.ErrSyntax", Rows.laid_strconv_ErrSyntax)] ((laidWorld os).forCall (fun _ _ => 0) ⟨#[], args, []⟩).memory :=
  laidMet_of_run' 8 (by kernel_rfl) (by kernel_rfl)
theorem laid_shaped (os : Os) : ((laidWorld os).forCall (fun _ _ => 0) ⟨#[], #[], []⟩).variablesRefB Tryd.prog = true := by kernel_rfl
theorem gPow : Tryd.prog.globalNamed "internal/strconv.uint64pow10" = some 0 := by kernel_rfl
theorem gPowType : (Tryd.prog.globals[0]?).map (·.type) = some 61 := by kernel_rfl
theorem gRng : Tryd.prog.globalNamed "strconv.ErrRange" = some 2 := by kernel_rfl
theorem gRngType : (Tryd.prog.globals[2]?).map (·.type) = some 38 := by kernel_rfl
theorem gSyn : Tryd.prog.globalNamed "strconv.ErrSyntax" = some 1 := by kernel_rfl
theorem gSynType : (Tryd.prog.globals[1]?).map (·.type) = some 38 := by kernel_rfl
theorem cells20 : Tryd.prog.cellsOf 61 = 20 := by kernel_rfl
theorem cellsU64 : Tryd.prog.cellsOf 43 = 1 := by kernel_rfl
theorem pow_data : (Rows.laid_internal_strconv_uint64pow10 : DataW Unit) = Lib.tabData .u64 Lib.pow10Tab := by kernel_rfl
/-- What the rows' list gives. -/
theorem laid_table {W : World} (h : laidMetH Tryd.prog [("math/bits.deBruijn32tab", Rows.laid_math_bits_deBruijn32tab), ("math/bits.deBruijn64tab", Rows.laid_math_bits_deBruijn64tab), ("internal/strconv.uint64pow10", Rows.laid_internal_strconv_uint64pow10), ("strconv.ErrRange", Rows.laid_strconv_ErrRange), ("strconv.ErrSyntax", Rows.laid_strconv_ErrSyntax)] W) : LaidW W := by
  obtain ⟨ps, hL, _⟩ := (show laidMet Tryd.prog [("math/bits.deBruijn32tab", Rows.laid_math_bits_deBruijn32tab), ("math/bits.deBruijn64tab", Rows.laid_math_bits_deBruijn64tab), ("internal/strconv.uint64pow10", Rows.laid_internal_strconv_uint64pow10), ("strconv.ErrRange", Rows.laid_strconv_ErrRange), ("strconv.ErrSyntax", Rows.laid_strconv_ErrSyntax)] W from h)
  obtain ⟨_, _, _, _, _, _, _, _, _, _, hL, _⟩ := hL
  obtain ⟨_, _, _, _, _, _, _, _, _, _, hL, _⟩ := hL
  obtain ⟨g3, t3, c3, f3, p3, q3, hg3, ht3, hv3, hd3, hL, _⟩ := hL
  obtain ⟨g4, t4, c4, f4, p4, q4, hg4, ht4, hv4, hd4, hL, _⟩ := hL
  obtain ⟨g5, t5, c5, f5, p5, q5, hg5, ht5, hv5, hd5, hL, _⟩ := hL
  obtain rfl := Option.some.inj (gPow.symm.trans hg3)
  obtain rfl := Option.some.inj (gPowType.symm.trans ht3)
  obtain rfl := Option.some.inj (gRng.symm.trans hg4)
  obtain rfl := Option.some.inj (gRngType.symm.trans ht4)
  obtain rfl := Option.some.inj (gSyn.symm.trans hg5)
  obtain rfl := Option.some.inj (gSynType.symm.trans ht5)
  refine ⟨?_, ?_, ?_⟩
  · unfold Lib.TabIs
    rw [pow_data] at hd3
    rw [hv3, ← Lib.cells_of_tab Tryd.underlying61 Tryd.underlying43 cellsU64 cells20 hd3]
  · obtain ⟨_, u, v, hc, _, _⟩ := Go.iface_of_trod Tryd.underlying38 hd5
    refine ⟨u, v, ?_⟩
    rw [World.var?_cell gSyn hv5 0, ← Array.getElem?_toList, hc]; rfl
  · obtain ⟨_, u, v, hc, _, _⟩ := Go.iface_of_trod Tryd.underlying38 hd4
    refine ⟨u, v, ?_⟩
    rw [World.var?_cell gRng hv4 0, ← Array.getElem?_toList, hc]; rfl
end Go.Proofs.YtfbocehdhmpnaaaDoor.Aux
