/-
  DERIVED. GIVEN WITH THE SEED: THE CARDS: each row of YthmcdohndckniaaDoorRows.lean that lists a variable, with what it lists TIED to the program's text (the seventh form; the later family's looks); each row that meets fmt, with fmt's text TOLD by the authors' own Lean function (tested against real Go, not proved from fmt's source: count such statements apart). THE CARD IS WHAT COUNTS. Prove the row's statement (the work); the ties are given (YthmcdohndckniaaDoorTie.lean); close each card by the builder's one call (the guide's Derived/Test/ToyasCard.lean, 'card_holds'). Laid BY PROGRAM, IN A SANDBOX (cutbox-door.mjs). By AI agents, Wed Nov 11 2026. No macro, syntax, notation, axiom, sorry.
-/
import Derived.Test.YthmcdohndckniaaDoorRows
import GoSem.ClaimSeven
namespace Go.Proofs.YthmcdohndckniaaDoor
namespace Rows

/-- THE TIED CARD OF 'peatbanklaw07.DeflateBound'. -/
def deflateBoundCard : Claim7 := { stood := { row := deflateBoundRow, standIns := [], harness := (true, "14ee33ff9099231e015599cb8a0db0ff1c640f4603cfa6bd8df831eb5fccb332"), looks := false }, kinds := [], alts := [], laidByText := true, laidKinds := [.data, .data, .data], laidTests := true, laidLooks := .later }
def DeflateBoundCardSaid : Prop := Claim7.holds Tryd.pinned (.plain (OpenSpec.ofChange deflateBoundSpec)) deflateBoundCard

/-- THE TIED CARD OF 'peatbanklaw07.DeflateNumbers'. -/
def deflateNumbersCard : Claim7 := { stood := { row := deflateNumbersRow, standIns := [], harness := (true, "14ee33ff9099231e015599cb8a0db0ff1c640f4603cfa6bd8df831eb5fccb332"), looks := false }, kinds := [], alts := [], laidByText := true, laidKinds := [.data, .data, .data], laidTests := true, laidLooks := .later }
def DeflateNumbersCardSaid : Prop := Claim7.holds Tryd.pinned (.plain (OpenSpec.ofChange deflateNumbersSpec)) deflateNumbersCard

/-- THE TIED CARD OF 'peatbanklaw07.DeflateBack'. -/
def deflateBackCard : Claim7 := { stood := { row := deflateBackRow, standIns := [], harness := (true, "14ee33ff9099231e015599cb8a0db0ff1c640f4603cfa6bd8df831eb5fccb332"), looks := false }, kinds := [], alts := [], laidByText := true, laidKinds := [.data, .data, .data, .data, .data, .data, .data, .widerDeep], laidTests := true, laidLooks := .later }
def DeflateBackCardSaid : Prop := Claim7.holds Tryd.pinned (.plain (OpenSpec.ofChange deflateBackSpec)) deflateBackCard

/-- THE TIED CARD OF 'peatbanklaw07.DeflateRuns'. -/
def deflateRunsCard : Claim7 := { stood := { row := deflateRunsRow, standIns := [], harness := (true, "14ee33ff9099231e015599cb8a0db0ff1c640f4603cfa6bd8df831eb5fccb332"), looks := false }, kinds := [], alts := [], laidByText := true, laidKinds := [.data, .data, .data, .data, .data, .data, .data, .widerDeep], laidTests := true, laidLooks := .later }
def DeflateRunsCardSaid : Prop := Claim7.holds Tryd.pinned (.plain (OpenSpec.ofChange deflateRunsSpec)) deflateRunsCard

/-- THE SECOND FORM's CARD OF 'peatbanklaw07.DeflateBound'. -/
def deflateBoundUptoCard : Claim7 := { stood := { row := deflateBoundUptoRow, standIns := [], harness := (true, "14ee33ff9099231e015599cb8a0db0ff1c640f4603cfa6bd8df831eb5fccb332"), looks := false }, kinds := [], alts := [], laidByText := true, laidKinds := [.data, .data, .data], laidTests := true, laidLooks := .later }
def DeflateBoundUptoCardSaid : Prop := Claim7.holds Tryd.pinned (.plain (OpenSpec.upto deflateBoundSpec)) deflateBoundUptoCard

/-- THE SECOND FORM's CARD OF 'peatbanklaw07.DeflateNumbers'. -/
def deflateNumbersUptoCard : Claim7 := { stood := { row := deflateNumbersUptoRow, standIns := [], harness := (true, "14ee33ff9099231e015599cb8a0db0ff1c640f4603cfa6bd8df831eb5fccb332"), looks := false }, kinds := [], alts := [], laidByText := true, laidKinds := [.data, .data, .data], laidTests := true, laidLooks := .later }
def DeflateNumbersUptoCardSaid : Prop := Claim7.holds Tryd.pinned (.plain (OpenSpec.upto deflateNumbersSpec)) deflateNumbersUptoCard

/-- THE SECOND FORM's CARD OF 'peatbanklaw07.DeflateBack'. -/
def deflateBackUptoCard : Claim7 := { stood := { row := deflateBackUptoRow, standIns := [], harness := (true, "14ee33ff9099231e015599cb8a0db0ff1c640f4603cfa6bd8df831eb5fccb332"), looks := false }, kinds := [], alts := [], laidByText := true, laidKinds := [.data, .data, .data, .data, .data, .data, .data, .widerDeep], laidTests := true, laidLooks := .later }
def DeflateBackUptoCardSaid : Prop := Claim7.holds Tryd.pinned (.plain (OpenSpec.upto deflateBackSpec)) deflateBackUptoCard

/-- THE SECOND FORM's CARD OF 'peatbanklaw07.DeflateRuns'. -/
def deflateRunsUptoCard : Claim7 := { stood := { row := deflateRunsUptoRow, standIns := [], harness := (true, "14ee33ff9099231e015599cb8a0db0ff1c640f4603cfa6bd8df831eb5fccb332"), looks := false }, kinds := [], alts := [], laidByText := true, laidKinds := [.data, .data, .data, .data, .data, .data, .data, .widerDeep], laidTests := true, laidLooks := .later }
def DeflateRunsUptoCardSaid : Prop := Claim7.holds Tryd.pinned (.plain (OpenSpec.upto deflateRunsSpec)) deflateRunsUptoCard
end Rows
end Go.Proofs.YthmcdohndckniaaDoor
