/-
  the desk seat's closed facts, by parts: its types are laid out.
-/
import Derived.Test.YtffalfacakdhkaaGreatDoorRows
import Derived.OpenShut
import Derived.WalkKit
import Derived.Lay
import Derived.JoinedOf
namespace Go.Proofs.YtffalfacakdhkaaGreatDoor
open Go
set_option maxRecDepth 100000
theorem lo0 : (List.range' 0 90).all (rowFine Tryz.prog) = true := by kernel_rfl
theorem lo1 : (List.range' 90 90).all (rowFine Tryz.prog) = true := by kernel_rfl
theorem lo2 : (List.range' 180 90).all (rowFine Tryz.prog) = true := by kernel_rfl
theorem lo3 : (List.range' 270 90).all (rowFine Tryz.prog) = true := by kernel_rfl
theorem lo4 : (List.range' 360 90).all (rowFine Tryz.prog) = true := by kernel_rfl
theorem lo5 : (List.range' 450 90).all (rowFine Tryz.prog) = true := by kernel_rfl
theorem lo6 : (List.range' 540 90).all (rowFine Tryz.prog) = true := by kernel_rfl
theorem lo7 : (List.range' 630 81).all (rowFine Tryz.prog) = true := by kernel_rfl
theorem loG : Tryz.prog.globals.all (fun g => decide (g.type < Tryz.prog.types.size)) = true := by kernel_rfl
theorem loF : Tryz.prog.funcs.all (fun f => f.params.all fun t => decide (t < Tryz.prog.types.size)) = true := by kernel_rfl
theorem loR : List.range Tryz.prog.types.size = List.range' 0 90 ++ (List.range' 90 90 ++ (List.range' 180 90 ++ (List.range' 270 90 ++ (List.range' 360 90 ++ (List.range' 450 90 ++ (List.range' 540 90 ++ (List.range' 630 81))))))) := by kernel_rfl
theorem laidOutP : laidOutB Tryz.prog = true := by
  unfold laidOutB
  rw [loR, loG, loF]
  simp only [List.all_append, lo0, lo1, lo2, lo3, lo4, lo5, lo6, lo7, Bool.and_true]
end Go.Proofs.YtffalfacakdhkaaGreatDoor
