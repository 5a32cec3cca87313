/-
  DERIVED. GIVEN WITH THE SEED: THE CARDS: each row of YtffalfacakdhkaaGreatDoorRows.lean that lists a variable, with what it lists TIED to the program's text (the seventh form; the later family's looks); each row that meets fmt, with fmt's text TOLD by the authors' own Lean function (tested against real Go, not proved from fmt's source: count such statements apart). THE CARD IS WHAT COUNTS. Prove the row's statement (the work); the ties are given (YtffalfacakdhkaaGreatDoorTie.lean); close each card by the builder's one call (the guide's Derived/Test/ToyasCard.lean, 'card_holds'). Laid BY PROGRAM, IN A SANDBOX (cutbox-door.mjs). By AI agents, Wed Nov 11 2026. No macro, syntax, notation, axiom, sorry.
-/
import Derived.Test.YtffalfacakdhkaaGreatDoorRows
import GoSem.ClaimSeven
namespace Go.Proofs.YtffalfacakdhkaaGreatDoor
namespace Rows

/-- THE TIED CARD OF 'peatbanklaw32.DeskNumbers'. -/
def deskNumbersCard : Claim7 := { stood := { row := deskNumbersRow, standIns := [], harness := (true, "a81583bb3ec94dad78111983f63ee991f3055d4f86bd731d8c8160775cf81516"), looks := true }, kinds := [], alts := [], laidByText := true, laidKinds := [.data, .data, .data, .pinned, .data, .data, .data, .sentinel, .sentinel, .sentinel], laidTests := true, laidLooks := .later }
def DeskNumbersCardSaid : Prop := Claim7.holds Tryz.pinned (.plain (OpenSpec.ofChange deskNumbersSpec)) deskNumbersCard

/-- THE TIED CARD OF 'peatbanklaw32.DeskLong'. -/
def deskLongCard : Claim7 := { stood := { row := deskLongRow, standIns := [], harness := (true, "a81583bb3ec94dad78111983f63ee991f3055d4f86bd731d8c8160775cf81516"), looks := true }, kinds := [], alts := [], laidByText := true, laidKinds := [.data, .data, .data, .pinned, .data, .data, .data, .sentinel, .sentinel, .sentinel], laidTests := true, laidLooks := .later }
def DeskLongCardSaid : Prop := Claim7.holds Tryz.pinned (.plain (OpenSpec.ofChange deskLongSpec)) deskLongCard

/-- THE SECOND FORM's CARD OF 'peatbanklaw32.DeskNumbers'. -/
def deskNumbersUptoCard : Claim7 := { stood := { row := deskNumbersUptoRow, standIns := [], harness := (true, "a81583bb3ec94dad78111983f63ee991f3055d4f86bd731d8c8160775cf81516"), looks := true }, kinds := [], alts := [], laidByText := true, laidKinds := [.data, .data, .data, .pinned, .data, .data, .data, .sentinel, .sentinel, .sentinel], laidTests := true, laidLooks := .later }
def DeskNumbersUptoCardSaid : Prop := Claim7.holds Tryz.pinned (.plain (OpenSpec.upto deskNumbersSpec)) deskNumbersUptoCard

/-- THE SECOND FORM's CARD OF 'peatbanklaw32.DeskLong'. -/
def deskLongUptoCard : Claim7 := { stood := { row := deskLongUptoRow, standIns := [], harness := (true, "a81583bb3ec94dad78111983f63ee991f3055d4f86bd731d8c8160775cf81516"), looks := true }, kinds := [], alts := [], laidByText := true, laidKinds := [.data, .data, .data, .pinned, .data, .data, .data, .sentinel, .sentinel, .sentinel], laidTests := true, laidLooks := .later }
def DeskLongUptoCardSaid : Prop := Claim7.holds Tryz.pinned (.plain (OpenSpec.upto deskLongSpec)) deskLongUptoCard
end Rows
end Go.Proofs.YtffalfacakdhkaaGreatDoor
