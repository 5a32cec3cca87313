/-
  the desk seat's closed facts, by parts: DeskNumbers, joined.
-/
import Derived.Test.YtffalfacakdhkaaGreatDoorFctA
import Derived.Test.YtffalfacakdhkaaGreatDoorFctB
import Derived.Test.YtffalfacakdhkaaGreatDoorFctDeskNumbersa
import Derived.Test.YtffalfacakdhkaaGreatDoorFctDeskNumbersb
namespace Go.Proofs.YtffalfacakdhkaaGreatDoor
open Go
set_option maxRecDepth 100000
theorem deskNumbers_closed : joinedFacts Tryz.pinned.checked.prog 3 Tryz.f3 Rows.deskNumbersSpec Rows.deskNumbersRow = true := by
  show joinedFacts Tryz.prog 3 Tryz.f3 Rows.deskNumbersSpec Rows.deskNumbersRow = true
  unfold joinedFacts
  rw [deskNumbersk1, laidOutP, progk3, deskNumbersk4, deskNumbersk5, deskNumbersk6, progk7, deskNumbersk8, progk9, deskNumbersk10, deskNumbersk11, deskNumbersk12, deskNumbersk13, deskNumbersk14, deskNumbersk15, deskNumbersk16, deskNumbersk17, deskNumbersk18, deskNumbersk19, deskNumbersk20, deskNumbersk21, deskNumbersk22, deskNumbersk23, deskNumbersk24, progk25, progk26, deskNumbersk27, deskNumbersk28, deskNumbersk30, deskNumbersk31, deskNumbersk32]
  kernel_rfl
end Go.Proofs.YtffalfacakdhkaaGreatDoor
