-- own work: an evaluator of the program's code, and what it answers
import Derived.Test.YtapjanalameofaaDoorRows
import Derived.Test.YtapjanalameofaaDoorTab
import Derived.Test.YtapjanalameofaaDoorMapKit
import Derived.Deep.DeepHandedRow
import Derived.Deep.DeepWitnessRowRef
import Derived.Lib.LaidTab
import Derived.LaidLaws
/-
  A world for the witness: the settled one, the packages' tables and maps holding what their initialisers lay; and what the rows' list gives.
-/
set_option maxRecDepth 100000
namespace Go.Eng
open Go Go.Proofs
set_option linter.unusedVariables false
open Go.RowKit
def cellsOfData : DataW Unit → Array Value
  | .agg l => (l.map fun | .lit (.int k v) => Value.int k v | _ => Value.bool false).toArray
  | _ => #[]
noncomputable def laidWorld (os : Os) : World :=
  let N := (World.settled Tryd.prog os).heap.size
  let w0 := World.holding Tryd.prog os ⟨#[
    .cells (#[9, 13, 1, 32, 133, 101, 160, 5760, 5600, 8192, 8202, 1, 8232, 8233, 1, 8239, 8287, 48, 12288, 12288, 1].map (Value.int .u16)) 140,
    .cells #[.slice (some ⟨N, 0, none⟩) 7 7, .slice none 0 0, .int .i64 2] 137,
    .map #[⟨.int .i64 7, .int .i64 4, 0⟩, ⟨.int .i64 8, .int .i64 3, 1⟩, ⟨.int .i64 9, .int .i64 2, 2⟩, ⟨.int .i64 10, .int .i64 1, 3⟩] 4,
    .map #[⟨.int .i64 7, .string ⟨#[32, 38, 32]⟩, 0⟩, ⟨.int .i64 8, .string ⟨#[32, 124, 32]⟩, 1⟩, ⟨.int .i64 9, .string ⟨#[32, 45, 62, 32]⟩, 2⟩, ⟨.int .i64 10, .string ⟨#[32, 60, 45, 62, 32]⟩, 3⟩] 4], #[], []⟩
  let put (h : Array Obj) (g : Nat) (cs : Array Value) : Array Obj := h.modify g fun
    | .cells _ t frozen => .cells cs t frozen
    | o => o
  let h1 := put w0.heap 4 (Lib.asciiSpaceTab.map fun z => Value.int .u8 z).toArray
  let h2 := put h1 5 #[.pointer (some ⟨N + 1, 0, none⟩)]
  let h3 := put h2 6 (cellsOfData Go.Proofs.YtapjanalameofaaDoor.Rows.laid_math_bits_deBruijn32tab)
  let h4 := put h3 7 (cellsOfData Go.Proofs.YtapjanalameofaaDoor.Rows.laid_math_bits_deBruijn64tab)
  let h5 := put h4 3 (cellsOfData Go.Proofs.YtapjanalameofaaDoor.Rows.laid_internal_strconv_uint64pow10)
  let h6 := put h5 0 #[.map (some (N + 2))]
  let h7 := put h6 1 #[.map (some (N + 3))]
  { w0 with heap := h7 }
theorem laid_met (os : Os) (args : Array Value) :
    laidMet Tryd.prog [("math/bits.deBruijn32tab", Go.Proofs.YtapjanalameofaaDoor.Rows.laid_math_bits_deBruijn32tab), ("math/bits.deBruijn64tab", Go.Proofs.YtapjanalameofaaDoor.Rows.laid_math_bits_deBruijn64tab), ("internal/strconv.uint64pow10", Go.Proofs.YtapjanalameofaaDoor.Rows.laid_internal_strconv_uint64pow10), ("unicode.White_Space", Go.Proofs.YtapjanalameofaaDoor.Rows.laid_unicode_White_Space), ("strings.asciiSpace", Go.Proofs.YtapjanalameofaaDoor.Rows.laid_strings_asciiSpace), ("sequitur/show.tight", Go.Proofs.YtapjanalameofaaDoor.Rows.laid_sequitur_show_tight), ("sequitur/show.signs", Go.Proofs.YtapjanalameofaaDoor.Rows.laid_sequitur_show_signs)] ((laidWorld os).forCall (fun _ _ => 0) ⟨#[], args, []⟩).memory :=
  laidMet_of_run' 8 (by kernel_rfl) (by kernel_rfl)
theorem gAscii : Tryd.prog.globalNamed "strings.asciiSpace" = some 4 := by kernel_rfl
theorem gAsciiType : (Tryd.prog.globals[4]?).map (·.type) = some 123 := by kernel_rfl
theorem cells256 : Tryd.prog.cellsOf 123 = 256 := by kernel_rfl
theorem cellsU8 : Tryd.prog.cellsOf 5 = 1 := by kernel_rfl
theorem ascii_data : (Go.Proofs.YtapjanalameofaaDoor.Rows.laid_strings_asciiSpace : DataW Unit) = Lib.tabData .u8 Lib.asciiSpaceTab := by kernel_rfl
theorem gPow : Tryd.prog.globalNamed "internal/strconv.uint64pow10" = some 3 := by kernel_rfl
theorem gPowType : (Tryd.prog.globals[3]?).map (·.type) = some 117 := by kernel_rfl
theorem cells20 : Tryd.prog.cellsOf 117 = 20 := by kernel_rfl
theorem cellsU64 : Tryd.prog.cellsOf 97 = 1 := by kernel_rfl
theorem pow_data : (Go.Proofs.YtapjanalameofaaDoor.Rows.laid_internal_strconv_uint64pow10 : DataW Unit) = Lib.tabData .u64 Lib.pow10Tab := by kernel_rfl
theorem gTight : Tryd.prog.globalNamed "sequitur/show.tight" = some 0 := by kernel_rfl
theorem gTightType : (Tryd.prog.globals[0]?).map (·.type) = some 90 := by kernel_rfl
theorem gSigns : Tryd.prog.globalNamed "sequitur/show.signs" = some 1 := by kernel_rfl
theorem gSignsType : (Tryd.prog.globals[1]?).map (·.type) = some 91 := by kernel_rfl
/-- What the rows' list gives. -/
theorem laid_table {W : World} (h : laidMetH Tryd.prog [("math/bits.deBruijn32tab", Go.Proofs.YtapjanalameofaaDoor.Rows.laid_math_bits_deBruijn32tab), ("math/bits.deBruijn64tab", Go.Proofs.YtapjanalameofaaDoor.Rows.laid_math_bits_deBruijn64tab), ("internal/strconv.uint64pow10", Go.Proofs.YtapjanalameofaaDoor.Rows.laid_internal_strconv_uint64pow10), ("unicode.White_Space", Go.Proofs.YtapjanalameofaaDoor.Rows.laid_unicode_White_Space), ("strings.asciiSpace", Go.Proofs.YtapjanalameofaaDoor.Rows.laid_strings_asciiSpace), ("sequitur/show.tight", Go.Proofs.YtapjanalameofaaDoor.Rows.laid_sequitur_show_tight), ("sequitur/show.signs", Go.Proofs.YtapjanalameofaaDoor.Rows.laid_sequitur_show_signs)] W) : LaidS W := by
  obtain ⟨ps, hL, _⟩ := (show laidMet Tryd.prog [("math/bits.deBruijn32tab", Go.Proofs.YtapjanalameofaaDoor.Rows.laid_math_bits_deBruijn32tab), ("math/bits.deBruijn64tab", Go.Proofs.YtapjanalameofaaDoor.Rows.laid_math_bits_deBruijn64tab), ("internal/strconv.uint64pow10", Go.Proofs.YtapjanalameofaaDoor.Rows.laid_internal_strconv_uint64pow10), ("unicode.White_Space", Go.Proofs.YtapjanalameofaaDoor.Rows.laid_unicode_White_Space), ("strings.asciiSpace", Go.Proofs.YtapjanalameofaaDoor.Rows.laid_strings_asciiSpace), ("sequitur/show.tight", Go.Proofs.YtapjanalameofaaDoor.Rows.laid_sequitur_show_tight), ("sequitur/show.signs", Go.Proofs.YtapjanalameofaaDoor.Rows.laid_sequitur_show_signs)] W from h)
  obtain ⟨_, _, _, _, _, _, _, _, _, _, hL, _⟩ := hL
  obtain ⟨_, _, _, _, _, _, _, _, _, _, hL, _⟩ := hL
  obtain ⟨g3, t3, c3, f3, p3, q3, hg3, ht3, hv3, hd3, hL, _⟩ := hL
  obtain ⟨_, _, _, _, _, _, _, _, _, _, hL, _⟩ := hL
  obtain ⟨g5, t5, c5, f5, p5, q5, hg5, ht5, hv5, hd5, hL, _⟩ := hL
  obtain ⟨g6, t6, c6, f6, p6, q6, hg6, ht6, hv6, hd6, hL, _⟩ := hL
  obtain ⟨g7, t7, c7, f7, p7, q7, hg7, ht7, hv7, hd7, hL, _⟩ := hL
  obtain rfl := Option.some.inj (gPow.symm.trans hg3)
  obtain rfl := Option.some.inj (gPowType.symm.trans ht3)
  obtain rfl := Option.some.inj (gAscii.symm.trans hg5)
  obtain rfl := Option.some.inj (gAsciiType.symm.trans ht5)
  obtain rfl := Option.some.inj (gTight.symm.trans hg6)
  obtain rfl := Option.some.inj (gTightType.symm.trans ht6)
  obtain rfl := Option.some.inj (gSigns.symm.trans hg7)
  obtain rfl := Option.some.inj (gSignsType.symm.trans ht7)
  refine ⟨?_, ?_, ?_, ?_⟩
  · unfold LaidW Lib.TabIs
    rw [ascii_data] at hd5
    rw [hv5, ← Lib.cells_of_tab Tryd.underlying123 Tryd.underlying5 cellsU8 cells256 hd5]
  · unfold Lib.TabIs
    rw [pow_data] at hd3
    rw [hv3, ← Lib.cells_of_tab Tryd.underlying117 Tryd.underlying97 cellsU64 cells20 hd3]
  · obtain ⟨u, hu, hr⟩ := map_RC Tryd.underlying90 Tryd.underlying3 hd6 (ks := [7, 8, 9, 10]) (vs := [cI 4, cI 3, cI 2, cI 1]) rfl (by decide) (fun n i q y v z hq hy hz hzq => by
      have key : ∀ d : Int, q.2 = .lit (.int .i64 d) → y = cI d → RC (memF W) y v.cells.toList ∧ y.isAgg = aggV v := fun d h1 h2 => by
        have := val_int Tryd.underlying3 hz (hzq.trans h1)
        subst this; subst h2
        exact ⟨by simp only [cI, RC]; exact ⟨rfl, rfl⟩, rfl⟩
      match i, hq, hy with
      | 0, hq, hy => cases hq; cases hy; exact key 4 rfl rfl
      | 1, hq, hy => cases hq; cases hy; exact key 3 rfl rfl
      | 2, hq, hy => cases hq; cases hy; exact key 2 rfl rfl
      | 3, hq, hy => cases hq; cases hy; exact key 1 rfl rfl
      | i + 4, hq, hy => simp at hy) rfl
    refine ⟨u, ?_, hr⟩
    rw [World.var?_cell gTight hv6 0, ← Array.getElem?_toList, hu]; rfl
  · obtain ⟨u, hu, hr⟩ := map_RC Tryd.underlying91 Tryd.underlying3 hd7 (ks := [7, 8, 9, 10]) (vs := [cS ⟨#[32, 38, 32]⟩, cS ⟨#[32, 124, 32]⟩, cS ⟨#[32, 45, 62, 32]⟩, cS ⟨#[32, 60, 45, 62, 32]⟩]) rfl (by decide) (fun n i q y v z hq hy hz hzq => by
      have key : ∀ d : List UInt8, q.2 = .lit (.string d) → y = cS ⟨d.toArray⟩ → RC (memF W) y v.cells.toList ∧ y.isAgg = aggV v := fun d h1 h2 => by
        have := val_str Tryd.underlying9 hz (hzq.trans h1)
        subst this; subst h2
        exact ⟨by simp only [cS, RC]; exact ⟨rfl, rfl⟩, rfl⟩
      match i, hq, hy with
      | 0, hq, hy => cases hq; cases hy; exact key [32, 38, 32] rfl rfl
      | 1, hq, hy => cases hq; cases hy; exact key [32, 124, 32] rfl rfl
      | 2, hq, hy => cases hq; cases hy; exact key [32, 45, 62, 32] rfl rfl
      | 3, hq, hy => cases hq; cases hy; exact key [32, 60, 45, 62, 32] rfl rfl
      | i + 4, hq, hy => simp at hy) rfl
    refine ⟨u, ?_, hr⟩
    rw [World.var?_cell gSigns hv7 0, ← Array.getElem?_toList, hu]; rfl
end Go.Eng
