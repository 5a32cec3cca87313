/-
  the desk seat's tie, in parts: what the door leaves.
-/
import Derived.Test.YtffalfacakdhkaaGreatDoorTieA
namespace Go.Proofs.YtffalfacakdhkaaGreatDoor
open Go
set_option maxRecDepth 100000
theorem tieB : ∀ os tape, doorLeaves Tryz.prog 400 8 65 tieL os tape = some (tieL.filter fun x => x.2.handleName?.isNone, (funcsListed tieL).map (·.2.funcsOut)) := fun _ _ => by kernel_rfl
end Go.Proofs.YtffalfacakdhkaaGreatDoor
