/-
  DERIVED. GIVEN WITH THE SEED: THE PROGRAM's TIES (one call each: nine closed facts by the kernel) AND EACH ROW's TIE, after the 31st guide's Derived/Test/Toyas{Tie, Card}.lean. No idea stands in it: it is a product of the set-up. Laid BY PROGRAM, IN A SANDBOX (cutbox-door.mjs). By AI agents, Wed Nov 11 2026. No macro, syntax, notation, axiom, sorry.
-/
import Derived.Test.YthmcdohndckniaaGreatDoorRows
import Derived.LaidByTextLater
import Derived.SevenTiedAt
import Derived.LaidSub
import Derived.LaidOnce
namespace Go.Proofs.YthmcdohndckniaaGreatDoor
open Go
set_option maxRecDepth 100000
theorem seatTie1 : Tryz.prog.laidByTextLater [("peatbank/deflate.lengths", Rows.laid_peatbank_deflate_lengths), ("peatbank/deflate.distances", Rows.laid_peatbank_deflate_distances), ("peatbank/deflate.order", Rows.laid_peatbank_deflate_order)] [.data, .data, .data] true :=
  Program.laidByTextLater_by_one 24 8 31 (by kernel_rfl) (by kernel_rfl) (by kernel_rfl) (by kernel_rfl) (by kernel_rfl) (by kernel_rfl) (fun _ _ => by kernel_rfl)
theorem noOwnUnsafe : Tryz.pinned.checked.prog.headLifts.contains "ownunsafe" = false := by kernel_rfl
theorem tie : Tryz.prog.laidByTextLater [("peatbank/deflate.lengths", Rows.laid_peatbank_deflate_lengths), ("peatbank/deflate.distances", Rows.laid_peatbank_deflate_distances), ("peatbank/deflate.order", Rows.laid_peatbank_deflate_order)] [.data, .data, .data] true :=
  Program.laidByTextLater.sub seatTie1 ["peatbank/deflate.lengths", "peatbank/deflate.distances", "peatbank/deflate.order"] (by kernel_rfl) (by kernel_rfl)
theorem deflateSays_row_tie : Rows.deflateSaysRow.laidByTextAt .later Tryz.pinned [.data, .data, .data] true :=
  OpenClaim.laidByTextAt_later rfl rfl tie noOwnUnsafe
theorem deflateSaysUpto_row_tie : Rows.deflateSaysUptoRow.laidByTextAt .later Tryz.pinned [.data, .data, .data] true :=
  OpenClaim.laidByTextAt_later rfl rfl tie noOwnUnsafe
end Go.Proofs.YthmcdohndckniaaGreatDoor
