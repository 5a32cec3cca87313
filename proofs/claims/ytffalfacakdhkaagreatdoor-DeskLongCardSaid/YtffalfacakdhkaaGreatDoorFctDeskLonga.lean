/-
  the desk seat's closed facts, by parts: of the row of DeskLong.
-/
import Derived.Test.YtffalfacakdhkaaGreatDoorRows
import Derived.OpenShut
import Derived.WalkKit
import Derived.Lay
import Derived.JoinedOf
namespace Go.Proofs.YtffalfacakdhkaaGreatDoor
open Go
set_option maxRecDepth 100000
theorem deskLongk1 : (Rows.deskLongRow.wf (OpenSpec.ofChange Rows.deskLongSpec)) = true := by kernel_rfl
theorem deskLongk4 : (Tryz.f4.params.all (Tryz.prog.readableRec ·)) = true := by kernel_rfl
theorem deskLongk5 : (namedTie Tryz.prog Rows.deskLongRow.named Rows.deskLongSpec.vars) = true := by kernel_rfl
theorem deskLongk6 : (Rows.deskLongRow.stops == []) = true := by kernel_rfl
theorem deskLongk8 : (Rows.deskLongRow.knobs == []) = true := by kernel_rfl
theorem deskLongk14 : (Rows.deskLongRow.maps == (Tryz.f4.params.toList ++ Rows.deskLongSpec.plain.varTypes Tryz.prog).any (Tryz.prog.mapsRec ·)) = true := by kernel_rfl
theorem deskLongk15 : (Rows.deskLongRow.ifaces == (Tryz.f4.params.toList ++ Rows.deskLongSpec.plain.varTypes Tryz.prog).any (Tryz.prog.ifacesRec ·)) = true := by kernel_rfl
theorem deskLongk16 : (Rows.deskLongRow.mapsOut == Tryz.prog.mapsAmong Tryz.f4.resultTypes.toList) = true := by kernel_rfl
theorem deskLongk17 : (Rows.deskLongRow.loops == (Tryz.f4.params.toList ++ Rows.deskLongSpec.plain.varTypes Tryz.prog).any (Tryz.prog.loopsFrom ·)) = true := by kernel_rfl
theorem deskLongk18 : (Rows.deskLongRow.wideKeys == (Tryz.f4.params.toList ++ Rows.deskLongSpec.plain.varTypes Tryz.prog ++ Tryz.f4.resultTypes.toList).any (Tryz.prog.wideKeysFrom ·)) = true := by kernel_rfl
theorem deskLongk19 : (Rows.deskLongSpec.vars.all (Tryz.prog.varReadable ·)) = true := by kernel_rfl
theorem deskLongk20 : (Tryz.f4.resultTypes.all (fun t => Tryz.prog.readableRec t && decide (t < Tryz.prog.types.size))) = true := by kernel_rfl
theorem deskLongk21 : (Rows.deskLongRow.ifacesOut == Tryz.f4.resultTypes.toList.any (Tryz.prog.ifacesRec ·)) = true := by kernel_rfl
theorem deskLongk22 : (Rows.deskLongRow.loopsOut == Tryz.f4.resultTypes.toList.any (Tryz.prog.loopsFrom ·)) = true := by kernel_rfl
theorem deskLongk23 : (Rows.deskLongRow.plainKeys == Tryz.prog.plainKeys) = true := by kernel_rfl
theorem deskLongk24 : (Rows.deskLongRow.shortTexts.isNone) = true := by kernel_rfl
theorem deskLongk27 : (Rows.deskLongRow.lifted == Tryz.prog.liftsFinal) = true := by kernel_rfl
theorem deskLongk28 : (Tryz.prog.make == some Rows.deskLongRow.make) = true := by kernel_rfl
theorem deskLongk30 : (Rows.deskLongRow.pinned == Rows.deskLongRow.pinnedBy) = true := by kernel_rfl
theorem deskLongk31 : (Rows.deskLongRow.veiled == (Tryz.f4.params.toList ++ Rows.deskLongSpec.plain.varTypes Tryz.prog ++ Tryz.f4.resultTypes.toList).any (Tryz.prog.veiledRec ·)) = true := by kernel_rfl
theorem deskLongk32 : (Rows.deskLongRow.veiledFits Tryz.prog Tryz.f4.params.toList (Tryz.f4.params.toList ++ Rows.deskLongSpec.plain.varTypes Tryz.prog ++ Tryz.f4.resultTypes.toList)) = true := by kernel_rfl
end Go.Proofs.YtffalfacakdhkaaGreatDoor
