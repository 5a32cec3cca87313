/-
  the desk seat's closed facts, by parts: what DeskLong reaches.
-/
import Derived.Test.YtffalfacakdhkaaGreatDoorRows
import Derived.OpenShut
import Derived.WalkKit
import Derived.Lay
import Derived.JoinedOf
namespace Go.Proofs.YtffalfacakdhkaaGreatDoor
open Go
set_option maxRecDepth 100000
theorem deskLongk10 : (Rows.deskLongRow.inPlace == Tryz.prog.inPlace 4) = true := by kernel_rfl
theorem deskLongk11 : (Rows.deskLongRow.unfollowed == Tryz.prog.unfollowed 4) = true := by kernel_rfl
theorem deskLongk12 : (Rows.deskLongRow.recurses == Tryz.prog.recurses 4) = true := by kernel_rfl
theorem deskLongk13 : (Rows.deskLongRow.named == Tryz.prog.varsNamed 4) = true := by kernel_rfl
end Go.Proofs.YtffalfacakdhkaaGreatDoor
