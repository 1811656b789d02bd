/-
  DERIVED. GIVEN WITH THE SEED: THE PROGRAM's TIES (one call each: nine closed facts by the kernel) AND EACH ROW's TIE, after the 31st guide's Derived/Test/Toyas{Tie, Card}.lean. No idea stands in it: it is a product of the set-up. Laid BY PROGRAM, IN A SANDBOX (cutbox-door.mjs). By AI agents, Wed Nov 11 2026. No macro, syntax, notation, axiom, sorry.
-/
import Derived.Test.YtapjanalameofaaDoorRows
import Derived.LaidByTextLater
import Derived.SevenTiedAt
import Derived.LaidSub
import Derived.LaidOnce
namespace Go.Proofs.YtapjanalameofaaDoor
open Go
set_option maxRecDepth 100000
theorem seatTie1 : Tryd.prog.laidByTextLater [("math/bits.deBruijn32tab", Rows.laid_math_bits_deBruijn32tab), ("math/bits.deBruijn64tab", Rows.laid_math_bits_deBruijn64tab), ("internal/strconv.uint64pow10", Rows.laid_internal_strconv_uint64pow10), ("unicode.White_Space", Rows.laid_unicode_White_Space), ("strings.asciiSpace", Rows.laid_strings_asciiSpace), ("sequitur/show.tight", Rows.laid_sequitur_show_tight), ("sequitur/show.signs", Rows.laid_sequitur_show_signs)] [.data, .data, .data, .listed, .data, .mapped, .mapped] true :=
  Program.laidByTextLater_by_one 98 8 257 (by kernel_rfl) (by kernel_rfl) (by kernel_rfl) (by kernel_rfl) (by kernel_rfl) (by kernel_rfl) (fun _ _ => by kernel_rfl)
theorem noOwnUnsafe : Tryd.pinned.checked.prog.headLifts.contains "ownunsafe" = false := by kernel_rfl
theorem tie : Tryd.prog.laidByTextLater [("math/bits.deBruijn32tab", Rows.laid_math_bits_deBruijn32tab), ("math/bits.deBruijn64tab", Rows.laid_math_bits_deBruijn64tab), ("internal/strconv.uint64pow10", Rows.laid_internal_strconv_uint64pow10), ("unicode.White_Space", Rows.laid_unicode_White_Space), ("strings.asciiSpace", Rows.laid_strings_asciiSpace), ("sequitur/show.tight", Rows.laid_sequitur_show_tight), ("sequitur/show.signs", Rows.laid_sequitur_show_signs)] [.data, .data, .data, .listed, .data, .mapped, .mapped] true :=
  Program.laidByTextLater.sub seatTie1 ["math/bits.deBruijn32tab", "math/bits.deBruijn64tab", "internal/strconv.uint64pow10", "unicode.White_Space", "strings.asciiSpace", "sequitur/show.tight", "sequitur/show.signs"] (by kernel_rfl) (by kernel_rfl)
theorem showTerms_row_tie : Rows.showTermsRow.laidByTextAt .later Tryd.pinned [.data, .data, .data, .listed, .data, .mapped, .mapped] true :=
  OpenClaim.laidByTextAt_later rfl rfl tie noOwnUnsafe
theorem showClaims_row_tie : Rows.showClaimsRow.laidByTextAt .later Tryd.pinned [.data, .data, .data, .listed, .data, .mapped, .mapped] true :=
  OpenClaim.laidByTextAt_later rfl rfl tie noOwnUnsafe
theorem showFresh_row_tie : Rows.showFreshRow.laidByTextAt .later Tryd.pinned [.data, .data, .data, .listed, .data, .mapped, .mapped] true :=
  OpenClaim.laidByTextAt_later rfl rfl tie noOwnUnsafe
theorem showBrackets_row_tie : Rows.showBracketsRow.laidByTextAt .later Tryd.pinned [.data, .data, .data, .listed, .data, .mapped, .mapped] true :=
  OpenClaim.laidByTextAt_later rfl rfl tie noOwnUnsafe
theorem showSeqs_row_tie : Rows.showSeqsRow.laidByTextAt .later Tryd.pinned [.data, .data, .data, .listed, .data, .mapped, .mapped] true :=
  OpenClaim.laidByTextAt_later rfl rfl tie noOwnUnsafe
theorem showFuns_row_tie : Rows.showFunsRow.laidByTextAt .later Tryd.pinned [.data, .data, .data, .listed, .data, .mapped, .mapped] true :=
  OpenClaim.laidByTextAt_later rfl rfl tie noOwnUnsafe
theorem showTermsUpto_row_tie : Rows.showTermsUptoRow.laidByTextAt .later Tryd.pinned [.data, .data, .data, .listed, .data, .mapped, .mapped] true :=
  OpenClaim.laidByTextAt_later rfl rfl tie noOwnUnsafe
theorem showClaimsUpto_row_tie : Rows.showClaimsUptoRow.laidByTextAt .later Tryd.pinned [.data, .data, .data, .listed, .data, .mapped, .mapped] true :=
  OpenClaim.laidByTextAt_later rfl rfl tie noOwnUnsafe
theorem showFreshUpto_row_tie : Rows.showFreshUptoRow.laidByTextAt .later Tryd.pinned [.data, .data, .data, .listed, .data, .mapped, .mapped] true :=
  OpenClaim.laidByTextAt_later rfl rfl tie noOwnUnsafe
theorem showBracketsUpto_row_tie : Rows.showBracketsUptoRow.laidByTextAt .later Tryd.pinned [.data, .data, .data, .listed, .data, .mapped, .mapped] true :=
  OpenClaim.laidByTextAt_later rfl rfl tie noOwnUnsafe
theorem showSeqsUpto_row_tie : Rows.showSeqsUptoRow.laidByTextAt .later Tryd.pinned [.data, .data, .data, .listed, .data, .mapped, .mapped] true :=
  OpenClaim.laidByTextAt_later rfl rfl tie noOwnUnsafe
theorem showFunsUpto_row_tie : Rows.showFunsUptoRow.laidByTextAt .later Tryd.pinned [.data, .data, .data, .listed, .data, .mapped, .mapped] true :=
  OpenClaim.laidByTextAt_later rfl rfl tie noOwnUnsafe
end Go.Proofs.YtapjanalameofaaDoor
