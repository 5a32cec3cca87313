/-
  deflate's listed tables: what they give a law's walk.
-/
import Derived.Test.YthmcdohndckniaaGreatDoorDTop
import Derived.Test.YthmcdohndckniaaGreatDoorLaid
namespace Go.Proofs.YthmcdohndckniaaGreatDoor
open Go.ChangeShapes Go.WideShapes Go.ChangeAt Go.RowKit
set_option linter.unusedVariables false

def laidD : List (String × DataW Unit) := [("peatbank/deflate.lengths", Rows.laid_peatbank_deflate_lengths), ("peatbank/deflate.distances", Rows.laid_peatbank_deflate_distances), ("peatbank/deflate.order", Rows.laid_peatbank_deflate_order)]
theorem dheads {W : World} {r : List (String × DataW Unit)} {ps : List MemPlace} (h1 : DataW.LaidVars Tryz.prog W (("peatbank/deflate.lengths", Rows.laid_peatbank_deflate_lengths) :: ("peatbank/deflate.distances", Rows.laid_peatbank_deflate_distances) :: ("peatbank/deflate.order", Rows.laid_peatbank_deflate_order) :: r) ps) :
    TabAt W 1 lbases ∧ TabAt W 2 dbases ∧ TabAt W 0 orderL ∧ ∃ q, DataW.LaidVars Tryz.prog W r q := by
  have a0 : (Tryz.prog.globals[1]?).map (·.type) = some 126 := by kernel_rfl
  have a1 : (Tryz.prog.globals[2]?).map (·.type) = some 127 := by kernel_rfl
  have a2 : (Tryz.prog.globals[0]?).map (·.type) = some 93 := by kernel_rfl
  have ci : Tryz.prog.cellsOf 3 = 1 := by kernel_rfl
  obtain ⟨t1, q, h2⟩ := laid_head (l := lbases) h1 (show Tryz.prog.globalNamed "peatbank/deflate.lengths" = some 1 by kernel_rfl) a0 Tryz.underlying126 Tryz.underlying3 ci rfl rfl
  obtain ⟨t2, q, h3⟩ := laid_head (l := dbases) h2 (show Tryz.prog.globalNamed "peatbank/deflate.distances" = some 2 by kernel_rfl) a1 Tryz.underlying127 Tryz.underlying3 ci rfl rfl
  obtain ⟨t3, q, h4⟩ := laid_head (l := orderL) h3 (show Tryz.prog.globalNamed "peatbank/deflate.order" = some 0 by kernel_rfl) a2 Tryz.underlying93 Tryz.underlying3 ci rfl rfl
  exact ⟨t1, t2, t3, q, h4⟩
theorem dtabs_of_laid {W : World} (h : laidMetH Tryz.prog laidD W) : DTabs W := by
  rw [MakeChecks.laidMetH_plain _ _ _ (by kernel_rfl)] at h
  obtain ⟨ps, h1, _, _⟩ := h
  obtain ⟨t1, t2, t3, q, _⟩ := dheads h1
  have b1 := at_heap (t1 0 (by decide))
  have b2 := at_heap (t2 0 (by decide))
  have b3 := at_heap (t3 0 (by decide))
  exact ⟨t1, t2, t3, by omega⟩
theorem door_metD (os : Os) (args : Array Value) : laidMetH Tryz.prog laidD ((World.doorLaid Tryz.prog 400 os).forCall (fun _ _ => 0) ⟨#[], args, []⟩).memory :=
  laidMetH_of_parts3 (fuel := 8) (laidMet_of_run' 8 (by kernel_rfl) (by kernel_rfl)) (by kernel_rfl) (by kernel_rfl)
end Go.Proofs.YthmcdohndckniaaGreatDoor
