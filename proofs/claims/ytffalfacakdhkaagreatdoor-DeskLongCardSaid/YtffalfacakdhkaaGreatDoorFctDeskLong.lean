/-
  the desk seat's closed facts, by parts: DeskLong, joined.
-/
import Derived.Test.YtffalfacakdhkaaGreatDoorFctA
import Derived.Test.YtffalfacakdhkaaGreatDoorFctB
import Derived.Test.YtffalfacakdhkaaGreatDoorFctDeskLonga
import Derived.Test.YtffalfacakdhkaaGreatDoorFctDeskLongb
namespace Go.Proofs.YtffalfacakdhkaaGreatDoor
open Go
set_option maxRecDepth 100000
theorem deskLong_closed : joinedFacts Tryz.pinned.checked.prog 4 Tryz.f4 Rows.deskLongSpec Rows.deskLongRow = true := by
  show joinedFacts Tryz.prog 4 Tryz.f4 Rows.deskLongSpec Rows.deskLongRow = true
  unfold joinedFacts
  rw [deskLongk1, laidOutP, progk3, deskLongk4, deskLongk5, deskLongk6, progk7, deskLongk8, progk9, deskLongk10, deskLongk11, deskLongk12, deskLongk13, deskLongk14, deskLongk15, deskLongk16, deskLongk17, deskLongk18, deskLongk19, deskLongk20, deskLongk21, deskLongk22, deskLongk23, deskLongk24, progk25, progk26, deskLongk27, deskLongk28, deskLongk30, deskLongk31, deskLongk32]
  kernel_rfl
end Go.Proofs.YtffalfacakdhkaaGreatDoor
