/-
  the desk seat's closed facts, by parts: what DeskNumbers reaches.
-/
import Derived.Test.YtffalfacakdhkaaGreatDoorRows
import Derived.OpenShut
import Derived.WalkKit
import Derived.Lay
import Derived.JoinedOf
namespace Go.Proofs.YtffalfacakdhkaaGreatDoor
open Go
set_option maxRecDepth 100000
theorem deskNumbersk10 : (Rows.deskNumbersRow.inPlace == Tryz.prog.inPlace 3) = true := by kernel_rfl
theorem deskNumbersk11 : (Rows.deskNumbersRow.unfollowed == Tryz.prog.unfollowed 3) = true := by kernel_rfl
theorem deskNumbersk12 : (Rows.deskNumbersRow.recurses == Tryz.prog.recurses 3) = true := by kernel_rfl
theorem deskNumbersk13 : (Rows.deskNumbersRow.named == Tryz.prog.varsNamed 3) = true := by kernel_rfl
end Go.Proofs.YtffalfacakdhkaaGreatDoor
