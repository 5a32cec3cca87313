/-
  DERIVED. GIVEN WITH THE SEED: THE PROGRAM's TIES (one call each: nine closed facts by the kernel) AND EACH ROW's TIE, after the 31st guide's Derived/Test/Toyas{Tie, Card}.lean. No idea stands in it: it is a product of the set-up. Laid BY PROGRAM, IN A SANDBOX (cutbox-door.mjs). By AI agents, Wed Nov 11 2026. No macro, syntax, notation, axiom, sorry.
-/
import Derived.Test.YtlhaehefhhcgaaaDoorRows
import Derived.LaidByTextLater
import Derived.SevenTiedAt
import Derived.LaidSub
import Derived.LaidOnce
namespace Go.Proofs.YtlhaehefhhcgaaaDoor
open Go
set_option maxRecDepth 100000
theorem seatTie1 : Tryd.prog.laidByTextLater [("peatbank/inflate.lengthBases", Rows.laid_peatbank_inflate_lengthBases), ("peatbank/inflate.lengthBits", Rows.laid_peatbank_inflate_lengthBits), ("peatbank/inflate.distBases", Rows.laid_peatbank_inflate_distBases), ("peatbank/inflate.distBits", Rows.laid_peatbank_inflate_distBits), ("peatbank/inflate.order", Rows.laid_peatbank_inflate_order)] [.data, .data, .data, .data, .widerDeep] true :=
  Program.laidByTextLater_by_one 34 8 31 (by kernel_rfl) (by kernel_rfl) (by kernel_rfl) (by kernel_rfl) (by kernel_rfl) (by kernel_rfl) (fun _ _ => by kernel_rfl)
theorem noOwnUnsafe : Tryd.pinned.checked.prog.headLifts.contains "ownunsafe" = false := by kernel_rfl
theorem tie : Tryd.prog.laidByTextLater [("peatbank/inflate.lengthBases", Rows.laid_peatbank_inflate_lengthBases), ("peatbank/inflate.lengthBits", Rows.laid_peatbank_inflate_lengthBits), ("peatbank/inflate.distBases", Rows.laid_peatbank_inflate_distBases), ("peatbank/inflate.distBits", Rows.laid_peatbank_inflate_distBits), ("peatbank/inflate.order", Rows.laid_peatbank_inflate_order)] [.data, .data, .data, .data, .widerDeep] true :=
  Program.laidByTextLater.sub seatTie1 ["peatbank/inflate.lengthBases", "peatbank/inflate.lengthBits", "peatbank/inflate.distBases", "peatbank/inflate.distBits", "peatbank/inflate.order"] (by kernel_rfl) (by kernel_rfl)
theorem inflateReads_row_tie : Rows.inflateReadsRow.laidByTextAt .later Tryd.pinned [.data, .data, .data, .data, .widerDeep] true :=
  OpenClaim.laidByTextAt_later rfl rfl tie noOwnUnsafe
theorem inflateCuts_row_tie : Rows.inflateCutsRow.laidByTextAt .later Tryd.pinned [.data, .data, .data, .data, .widerDeep] true :=
  OpenClaim.laidByTextAt_later rfl rfl tie noOwnUnsafe
theorem inflateLimits_row_tie : Rows.inflateLimitsRow.laidByTextAt .later Tryd.pinned [.data, .data, .data, .data, .widerDeep] true :=
  OpenClaim.laidByTextAt_later rfl rfl tie noOwnUnsafe
theorem inflateAlike_row_tie : Rows.inflateAlikeRow.laidByTextAt .later Tryd.pinned [.data, .data, .data, .data, .widerDeep] true :=
  OpenClaim.laidByTextAt_later rfl rfl tie noOwnUnsafe
theorem inflateBack_row_tie : Rows.inflateBackRow.laidByTextAt .later Tryd.pinned [.data, .data, .data, .data, .widerDeep] true :=
  OpenClaim.laidByTextAt_later rfl rfl tie noOwnUnsafe
theorem inflateReadsUpto_row_tie : Rows.inflateReadsUptoRow.laidByTextAt .later Tryd.pinned [.data, .data, .data, .data, .widerDeep] true :=
  OpenClaim.laidByTextAt_later rfl rfl tie noOwnUnsafe
theorem inflateCutsUpto_row_tie : Rows.inflateCutsUptoRow.laidByTextAt .later Tryd.pinned [.data, .data, .data, .data, .widerDeep] true :=
  OpenClaim.laidByTextAt_later rfl rfl tie noOwnUnsafe
theorem inflateLimitsUpto_row_tie : Rows.inflateLimitsUptoRow.laidByTextAt .later Tryd.pinned [.data, .data, .data, .data, .widerDeep] true :=
  OpenClaim.laidByTextAt_later rfl rfl tie noOwnUnsafe
theorem inflateAlikeUpto_row_tie : Rows.inflateAlikeUptoRow.laidByTextAt .later Tryd.pinned [.data, .data, .data, .data, .widerDeep] true :=
  OpenClaim.laidByTextAt_later rfl rfl tie noOwnUnsafe
theorem inflateBackUpto_row_tie : Rows.inflateBackUptoRow.laidByTextAt .later Tryd.pinned [.data, .data, .data, .data, .widerDeep] true :=
  OpenClaim.laidByTextAt_later rfl rfl tie noOwnUnsafe
end Go.Proofs.YtlhaehefhhcgaaaDoor
