/-
  the desk seat's closed facts, by parts: nothing starts a goroutine; of the cards.
-/
import Derived.Test.YtffalfacakdhkaaGreatDoorCards
import Derived.SevenTiedAt
namespace Go.Proofs.YtffalfacakdhkaaGreatDoor
open Go
set_option maxRecDepth 100000
theorem progLooks : true = Tryz.prog.looks [] := by kernel_rfl
theorem noGo : Tryz.prog.funcs.toList.any Func.goes = false := by kernel_rfl
theorem goes0 (f : Nat) : Tryz.prog.goes f = false := by
  have h1 : ∀ g : Nat, (Tryz.prog.funcs[g]?).any Func.goes = false := fun g => by
    cases hg : Tryz.prog.funcs[g]? with
    | none => rfl
    | some fn =>
      have h := List.any_eq_false.1 noGo fn (by rw [Array.mem_toList_iff]; exact Array.mem_of_getElem? hg)
      simpa using h
  have h2 : Tryz.prog.funcs.any Func.goes = false := by rw [← Array.any_toList]; exact noGo
  unfold Program.goes
  rw [h2, Bool.and_false, Bool.or_false]
  exact List.any_eq_false.2 (fun g _ => by rw [h1 g]; decide)
theorem goesAt0 (n : String) : Tryz.prog.goesAt .entering n = false := by
  unfold Program.goesAt Program.goesFrom
  rw [Bool.or_false]
  generalize Tryz.prog.funcNamed n = q
  cases q with
  | none => rfl
  | some f =>
    rw [Option.any_some]
    exact goes0 f
theorem deskNumbersGoes : false = Rows.deskNumbersRow.goesBy Tryz.prog := by
  unfold OpenClaim.goesBy
  rw [show Rows.deskNumbersRow.start = Start.entering from rfl]
  exact (goesAt0 _).symm
theorem deskLongGoes : false = Rows.deskLongRow.goesBy Tryz.prog := by
  unfold OpenClaim.goesBy
  rw [show Rows.deskLongRow.start = Start.entering from rfl]
  exact (goesAt0 _).symm
end Go.Proofs.YtffalfacakdhkaaGreatDoor
