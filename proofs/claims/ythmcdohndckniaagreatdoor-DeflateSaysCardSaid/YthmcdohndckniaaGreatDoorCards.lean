/-
  DERIVED. GIVEN WITH THE SEED: THE CARDS: each row of YthmcdohndckniaaGreatDoorRows.lean that lists a variable, with what it lists TIED to the program's text (the seventh form; the later family's looks); each row that meets fmt, with fmt's text TOLD by the authors' own Lean function (tested against real Go, not proved from fmt's source: count such statements apart). THE CARD IS WHAT COUNTS. Prove the row's statement (the work); the ties are given (YthmcdohndckniaaGreatDoorTie.lean); close each card by the builder's one call (the guide's Derived/Test/ToyasCard.lean, 'card_holds'). Laid BY PROGRAM, IN A SANDBOX (cutbox-door.mjs). By AI agents, Wed Nov 11 2026. No macro, syntax, notation, axiom, sorry.
-/
import Derived.Test.YthmcdohndckniaaGreatDoorRows
import GoSem.ClaimSeven
namespace Go.Proofs.YthmcdohndckniaaGreatDoor
namespace Rows

/-- THE TIED CARD OF 'peatbanklaw07.DeflateSays'. -/
def deflateSaysCard : Claim7 := { stood := { row := deflateSaysRow, standIns := [], harness := (true, "d397e63defeca2c97028ad10425487a46b6c22471b7c57e01118a8bed29ebf3d"), looks := false }, kinds := [], alts := [], laidByText := true, laidKinds := [.data, .data, .data], laidTests := true, laidLooks := .later }
def DeflateSaysCardSaid : Prop := Claim7.holds Tryz.pinned (.plain (OpenSpec.ofChange deflateSaysSpec)) deflateSaysCard

/-- THE SECOND FORM's CARD OF 'peatbanklaw07.DeflateSays'. -/
def deflateSaysUptoCard : Claim7 := { stood := { row := deflateSaysUptoRow, standIns := [], harness := (true, "d397e63defeca2c97028ad10425487a46b6c22471b7c57e01118a8bed29ebf3d"), looks := false }, kinds := [], alts := [], laidByText := true, laidKinds := [.data, .data, .data], laidTests := true, laidLooks := .later }
def DeflateSaysUptoCardSaid : Prop := Claim7.holds Tryz.pinned (.plain (OpenSpec.upto deflateSaysSpec)) deflateSaysUptoCard
end Rows
end Go.Proofs.YthmcdohndckniaaGreatDoor
