/-
  DeskNumbers: the tied card; proved for every input: the law returns true, and leaves its arguments alone; the variables that it lists are tied to the text.
-/
import Derived.Test.YtffalfacakdhkaaGreatDoorCards
import Derived.Test.YtffalfacakdhkaaGreatDoorTieC
import Derived.Test.YtffalfacakdhkaaGreatDoorLfDeskNumbers
import Derived.Test.YtffalfacakdhkaaGreatDoorFctC
import Derived.Test.YtffalfacakdhkaaGreatDoorFctDeskNumbers
import Derived.WalkKit
import Derived.SevenTiedAt
import Derived.LaidMore
import Derived.Lay
import Derived.Stop.Joined
import Derived.ProofKit
import Derived.OpenShut
import Derived.ShutString
import Derived.ChangeOld
import Derived.Below
import Derived.SizedLaws
namespace Go.Proofs.YtffalfacakdhkaaGreatDoor.deskNumbers
open Go.ChangeShapes Go.WideShapes Go.ChangeAt Go.RowKit
open Go.ChangeMaps (open_string shut_string)
set_option linter.unusedVariables false

theorem over : Rows.deskNumbersRow.holds Tryz.pinned (OpenSpec.ofChange Rows.deskNumbersSpec) :=
  OpenClaim.holds_of_wide 3 Tryz.f3 rfl rfl rfl rfl rfl rfl rfl ⟨rfl, rfl, rfl, rfl, rfl⟩ rfl rfl rfl rfl rfl (by kernel_rfl) Tryz.func3 deskNumbers_closed
    (of_decide_eq_true (by kernel_rfl)) (by unfold Func.isWrapper; first | (rw [if_pos (by decide +kernel)]; kernel_rfl) | (rw [if_neg (by decide +kernel)]; exact ⟨rfl, rfl⟩))
    (fun os started H enc _ => lifted os started H enc)

/-- The tied card. -/
theorem proved : Rows.DeskNumbersCardSaid :=
  Claim7.holds_tied_plain_at .later [] [.data, .data, .data, .pinned, .data, .data, .data, .sentinel, .sentinel, .sentinel] true (true, "a81583bb3ec94dad78111983f63ee991f3055d4f86bd731d8c8160775cf81516") true
    over (fun _ h => by cases h) (by kernel_rfl) (fun _ h => by cases h) deskNumbers_row_tie rfl ⟨rfl, rfl⟩ (by kernel_rfl) rfl
    (fun f fn hf hfn => by
      obtain rfl : f = 3 := Option.some.inj ((show Tryz.prog.funcNamed "peatbank/peatbanklaw32.DeskNumbers" = some 3 by kernel_rfl).symm.trans hf) |>.symm
      obtain rfl : fn = Tryz.f3 := (Option.some.inj (Tryz.func3.symm.trans hfn)).symm
      exact ⟨progLooks, fun j t ht => by
        rw [Tryz.params3] at ht
        have hm : t ∈ [] := by simpa using Array.mem_of_getElem? ht
        have hall : ([].all fun u => !Tryz.prog.wantsStandIn u) = true := by kernel_rfl
        exact (show Tryz.prog.wantsStandIn t = false by simpa using List.all_eq_true.1 hall t hm)⟩)
    (show false = Rows.deskNumbersRow.goesBy Tryz.prog from deskNumbersGoes)
end Go.Proofs.YtffalfacakdhkaaGreatDoor.deskNumbers
