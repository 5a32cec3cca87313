/-
  DERIVED. GIVEN WITH THE SEED: THE PROGRAM's TIES (one call each: nine closed facts by the kernel) AND EACH ROW's TIE, after the 31st guide's Derived/Test/Toyas{Tie, Card}.lean. No idea stands in it: it is a product of the set-up. Laid BY PROGRAM, IN A SANDBOX (cutbox-door.mjs). By AI agents, Wed Nov 11 2026. No macro, syntax, notation, axiom, sorry.
-/
import Derived.Test.YthmcdohndckniaaDoorRows
import Derived.LaidByTextLater
import Derived.SevenTiedAt
import Derived.LaidSub
import Derived.LaidOnce
namespace Go.Proofs.YthmcdohndckniaaDoor
open Go
set_option maxRecDepth 100000
theorem seatTie1 : Tryd.prog.laidByTextLater [("peatbank/deflate.lengths", Rows.laid_peatbank_deflate_lengths), ("peatbank/deflate.distances", Rows.laid_peatbank_deflate_distances), ("peatbank/deflate.order", Rows.laid_peatbank_deflate_order), ("peatbank/inflate.lengthBases", Rows.laid_peatbank_inflate_lengthBases), ("peatbank/inflate.lengthBits", Rows.laid_peatbank_inflate_lengthBits), ("peatbank/inflate.distBases", Rows.laid_peatbank_inflate_distBases), ("peatbank/inflate.distBits", Rows.laid_peatbank_inflate_distBits), ("peatbank/inflate.order", Rows.laid_peatbank_inflate_order)] [.data, .data, .data, .data, .data, .data, .data, .widerDeep] true :=
  Program.laidByTextLater_by_one 49 8 31 (by kernel_rfl) (by kernel_rfl) (by kernel_rfl) (by kernel_rfl) (by kernel_rfl) (by kernel_rfl) (fun _ _ => by kernel_rfl)
theorem noOwnUnsafe : Tryd.pinned.checked.prog.headLifts.contains "ownunsafe" = false := by kernel_rfl
theorem tie : Tryd.prog.laidByTextLater [("peatbank/deflate.lengths", Rows.laid_peatbank_deflate_lengths), ("peatbank/deflate.distances", Rows.laid_peatbank_deflate_distances), ("peatbank/deflate.order", Rows.laid_peatbank_deflate_order)] [.data, .data, .data] true :=
  Program.laidByTextLater.sub seatTie1 ["peatbank/deflate.lengths", "peatbank/deflate.distances", "peatbank/deflate.order"] (by kernel_rfl) (by kernel_rfl)
theorem deflateBound_row_tie : Rows.deflateBoundRow.laidByTextAt .later Tryd.pinned [.data, .data, .data] true :=
  OpenClaim.laidByTextAt_later rfl rfl tie noOwnUnsafe
theorem deflateNumbers_row_tie : Rows.deflateNumbersRow.laidByTextAt .later Tryd.pinned [.data, .data, .data] true :=
  OpenClaim.laidByTextAt_later rfl rfl tie noOwnUnsafe
theorem tie2 : Tryd.prog.laidByTextLater [("peatbank/deflate.lengths", Rows.laid_peatbank_deflate_lengths), ("peatbank/deflate.distances", Rows.laid_peatbank_deflate_distances), ("peatbank/deflate.order", Rows.laid_peatbank_deflate_order), ("peatbank/inflate.lengthBases", Rows.laid_peatbank_inflate_lengthBases), ("peatbank/inflate.lengthBits", Rows.laid_peatbank_inflate_lengthBits), ("peatbank/inflate.distBases", Rows.laid_peatbank_inflate_distBases), ("peatbank/inflate.distBits", Rows.laid_peatbank_inflate_distBits), ("peatbank/inflate.order", Rows.laid_peatbank_inflate_order)] [.data, .data, .data, .data, .data, .data, .data, .widerDeep] true :=
  Program.laidByTextLater.sub seatTie1 ["peatbank/deflate.lengths", "peatbank/deflate.distances", "peatbank/deflate.order", "peatbank/inflate.lengthBases", "peatbank/inflate.lengthBits", "peatbank/inflate.distBases", "peatbank/inflate.distBits", "peatbank/inflate.order"] (by kernel_rfl) (by kernel_rfl)
theorem deflateBack_row_tie : Rows.deflateBackRow.laidByTextAt .later Tryd.pinned [.data, .data, .data, .data, .data, .data, .data, .widerDeep] true :=
  OpenClaim.laidByTextAt_later rfl rfl tie2 noOwnUnsafe
theorem deflateRuns_row_tie : Rows.deflateRunsRow.laidByTextAt .later Tryd.pinned [.data, .data, .data, .data, .data, .data, .data, .widerDeep] true :=
  OpenClaim.laidByTextAt_later rfl rfl tie2 noOwnUnsafe
theorem deflateBoundUpto_row_tie : Rows.deflateBoundUptoRow.laidByTextAt .later Tryd.pinned [.data, .data, .data] true :=
  OpenClaim.laidByTextAt_later rfl rfl tie noOwnUnsafe
theorem deflateNumbersUpto_row_tie : Rows.deflateNumbersUptoRow.laidByTextAt .later Tryd.pinned [.data, .data, .data] true :=
  OpenClaim.laidByTextAt_later rfl rfl tie noOwnUnsafe
theorem deflateBackUpto_row_tie : Rows.deflateBackUptoRow.laidByTextAt .later Tryd.pinned [.data, .data, .data, .data, .data, .data, .data, .widerDeep] true :=
  OpenClaim.laidByTextAt_later rfl rfl tie2 noOwnUnsafe
theorem deflateRunsUpto_row_tie : Rows.deflateRunsUptoRow.laidByTextAt .later Tryd.pinned [.data, .data, .data, .data, .data, .data, .data, .widerDeep] true :=
  OpenClaim.laidByTextAt_later rfl rfl tie2 noOwnUnsafe
end Go.Proofs.YthmcdohndckniaaDoor
