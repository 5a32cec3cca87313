/-
  the desk seat's closed facts, by parts: of the row of DeskNumbers.
-/
import Derived.Test.YtffalfacakdhkaaGreatDoorRows
import Derived.OpenShut
import Derived.WalkKit
import Derived.Lay
import Derived.JoinedOf
namespace Go.Proofs.YtffalfacakdhkaaGreatDoor
open Go
set_option maxRecDepth 100000
theorem deskNumbersk1 : (Rows.deskNumbersRow.wf (OpenSpec.ofChange Rows.deskNumbersSpec)) = true := by kernel_rfl
theorem deskNumbersk4 : (Tryz.f3.params.all (Tryz.prog.readableRec ·)) = true := by kernel_rfl
theorem deskNumbersk5 : (namedTie Tryz.prog Rows.deskNumbersRow.named Rows.deskNumbersSpec.vars) = true := by kernel_rfl
theorem deskNumbersk6 : (Rows.deskNumbersRow.stops == []) = true := by kernel_rfl
theorem deskNumbersk8 : (Rows.deskNumbersRow.knobs == []) = true := by kernel_rfl
theorem deskNumbersk14 : (Rows.deskNumbersRow.maps == (Tryz.f3.params.toList ++ Rows.deskNumbersSpec.plain.varTypes Tryz.prog).any (Tryz.prog.mapsRec ·)) = true := by kernel_rfl
theorem deskNumbersk15 : (Rows.deskNumbersRow.ifaces == (Tryz.f3.params.toList ++ Rows.deskNumbersSpec.plain.varTypes Tryz.prog).any (Tryz.prog.ifacesRec ·)) = true := by kernel_rfl
theorem deskNumbersk16 : (Rows.deskNumbersRow.mapsOut == Tryz.prog.mapsAmong Tryz.f3.resultTypes.toList) = true := by kernel_rfl
theorem deskNumbersk17 : (Rows.deskNumbersRow.loops == (Tryz.f3.params.toList ++ Rows.deskNumbersSpec.plain.varTypes Tryz.prog).any (Tryz.prog.loopsFrom ·)) = true := by kernel_rfl
theorem deskNumbersk18 : (Rows.deskNumbersRow.wideKeys == (Tryz.f3.params.toList ++ Rows.deskNumbersSpec.plain.varTypes Tryz.prog ++ Tryz.f3.resultTypes.toList).any (Tryz.prog.wideKeysFrom ·)) = true := by kernel_rfl
theorem deskNumbersk19 : (Rows.deskNumbersSpec.vars.all (Tryz.prog.varReadable ·)) = true := by kernel_rfl
theorem deskNumbersk20 : (Tryz.f3.resultTypes.all (fun t => Tryz.prog.readableRec t && decide (t < Tryz.prog.types.size))) = true := by kernel_rfl
theorem deskNumbersk21 : (Rows.deskNumbersRow.ifacesOut == Tryz.f3.resultTypes.toList.any (Tryz.prog.ifacesRec ·)) = true := by kernel_rfl
theorem deskNumbersk22 : (Rows.deskNumbersRow.loopsOut == Tryz.f3.resultTypes.toList.any (Tryz.prog.loopsFrom ·)) = true := by kernel_rfl
theorem deskNumbersk23 : (Rows.deskNumbersRow.plainKeys == Tryz.prog.plainKeys) = true := by kernel_rfl
theorem deskNumbersk24 : (Rows.deskNumbersRow.shortTexts.isNone) = true := by kernel_rfl
theorem deskNumbersk27 : (Rows.deskNumbersRow.lifted == Tryz.prog.liftsFinal) = true := by kernel_rfl
theorem deskNumbersk28 : (Tryz.prog.make == some Rows.deskNumbersRow.make) = true := by kernel_rfl
theorem deskNumbersk30 : (Rows.deskNumbersRow.pinned == Rows.deskNumbersRow.pinnedBy) = true := by kernel_rfl
theorem deskNumbersk31 : (Rows.deskNumbersRow.veiled == (Tryz.f3.params.toList ++ Rows.deskNumbersSpec.plain.varTypes Tryz.prog ++ Tryz.f3.resultTypes.toList).any (Tryz.prog.veiledRec ·)) = true := by kernel_rfl
theorem deskNumbersk32 : (Rows.deskNumbersRow.veiledFits Tryz.prog Tryz.f3.params.toList (Tryz.f3.params.toList ++ Rows.deskNumbersSpec.plain.varTypes Tryz.prog ++ Tryz.f3.resultTypes.toList)) = true := by kernel_rfl
end Go.Proofs.YtffalfacakdhkaaGreatDoor
