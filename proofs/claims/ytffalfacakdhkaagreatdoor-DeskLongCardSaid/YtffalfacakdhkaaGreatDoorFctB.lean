/-
  the desk seat's closed facts, by parts: of the program alone.
-/
import Derived.Test.YtffalfacakdhkaaGreatDoorRows
import Derived.OpenShut
import Derived.WalkKit
import Derived.Lay
import Derived.JoinedOf
namespace Go.Proofs.YtffalfacakdhkaaGreatDoor
open Go
set_option maxRecDepth 100000
theorem progk3 : (mapsRowed Tryz.prog) = true := by kernel_rfl
theorem progk7 : (Tryz.prog.stops == []) = true := by kernel_rfl
theorem progk9 : (Tryz.prog.stopKnobs == []) = true := by kernel_rfl
theorem progk25 : (Tryz.prog.stopsHeard) = true := by kernel_rfl
theorem progk26 : (Tryz.prog.mayEnter) = true := by kernel_rfl
end Go.Proofs.YtffalfacakdhkaaGreatDoor
