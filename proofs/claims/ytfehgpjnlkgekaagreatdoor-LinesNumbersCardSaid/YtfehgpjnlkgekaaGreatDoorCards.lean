/-
  DERIVED. GIVEN WITH THE SEED: THE CARDS: each row of YtfehgpjnlkgekaaGreatDoorRows.lean that lists a variable, with what it lists TIED to the program's text (the seventh form; the later family's looks); each row that meets fmt, with fmt's text TOLD by the authors' own Lean function (tested against real Go, not proved from fmt's source: count such statements apart). THE CARD IS WHAT COUNTS. Prove the row's statement (the work); the ties are given (YtfehgpjnlkgekaaGreatDoorTie.lean); close each card by the builder's one call (the guide's Derived/Test/ToyasCard.lean, 'card_holds'). Laid BY PROGRAM, IN A SANDBOX (cutbox-door.mjs). By AI agents, Wed Nov 11 2026. No macro, syntax, notation, axiom, sorry.
-/
import Derived.Test.YtfehgpjnlkgekaaGreatDoorRows
import GoSem.ClaimSeven
namespace Go.Proofs.YtfehgpjnlkgekaaGreatDoor
namespace Rows

/-- THE TIED CARD OF 'peatbanklaw31.LinesSteps'. -/
def linesStepsCard : Claim7 := { stood := { row := linesStepsRow, standIns := [], harness := (true, "17b731018d32512ce484aefb71c2b4e58bf98d78b69d3b362b3f1c8e0fe07893"), looks := true }, kinds := [], alts := [], laidByText := true, laidKinds := [.data, .data, .data, .data, .sentinel, .sentinel, .pinned], laidTests := true, laidLooks := .later }
def LinesStepsCardSaid : Prop := Claim7.holds Tryz.pinned (.plain (OpenSpec.ofChange linesStepsSpec)) linesStepsCard

/-- THE TIED CARD OF 'peatbanklaw31.LinesNumbers'. -/
def linesNumbersCard : Claim7 := { stood := { row := linesNumbersRow, standIns := [], harness := (true, "17b731018d32512ce484aefb71c2b4e58bf98d78b69d3b362b3f1c8e0fe07893"), looks := true }, kinds := [], alts := [], laidByText := true, laidKinds := [.data, .data, .data, .data, .sentinel, .sentinel, .pinned], laidTests := true, laidLooks := .later }
def LinesNumbersCardSaid : Prop := Claim7.holds Tryz.pinned (.plain (OpenSpec.ofChange linesNumbersSpec)) linesNumbersCard

/-- THE SECOND FORM's CARD OF 'peatbanklaw31.LinesSteps'. -/
def linesStepsUptoCard : Claim7 := { stood := { row := linesStepsUptoRow, standIns := [], harness := (true, "17b731018d32512ce484aefb71c2b4e58bf98d78b69d3b362b3f1c8e0fe07893"), looks := true }, kinds := [], alts := [], laidByText := true, laidKinds := [.data, .data, .data, .data, .sentinel, .sentinel, .pinned], laidTests := true, laidLooks := .later }
def LinesStepsUptoCardSaid : Prop := Claim7.holds Tryz.pinned (.plain (OpenSpec.upto linesStepsSpec)) linesStepsUptoCard

/-- THE SECOND FORM's CARD OF 'peatbanklaw31.LinesNumbers'. -/
def linesNumbersUptoCard : Claim7 := { stood := { row := linesNumbersUptoRow, standIns := [], harness := (true, "17b731018d32512ce484aefb71c2b4e58bf98d78b69d3b362b3f1c8e0fe07893"), looks := true }, kinds := [], alts := [], laidByText := true, laidKinds := [.data, .data, .data, .data, .sentinel, .sentinel, .pinned], laidTests := true, laidLooks := .later }
def LinesNumbersUptoCardSaid : Prop := Claim7.holds Tryz.pinned (.plain (OpenSpec.upto linesNumbersSpec)) linesNumbersUptoCard
end Rows
end Go.Proofs.YtfehgpjnlkgekaaGreatDoor
