/-
  DERIVED. GIVEN WITH THE SEED: THE CARDS: each row of YtonpihoidjahhaaDoorRows.lean that lists a variable, with what it lists TIED to the program's text (the seventh form; the later family's looks); each row that meets fmt, with fmt's text TOLD by the authors' own Lean function (tested against real Go, not proved from fmt's source: count such statements apart). THE CARD IS WHAT COUNTS. Prove the row's statement (the work); the ties are given (YtonpihoidjahhaaDoorTie.lean); close each card by the builder's one call (the guide's Derived/Test/ToyasCard.lean, 'card_holds'). Laid BY PROGRAM, IN A SANDBOX (cutbox-door.mjs). By AI agents, Wed Nov 11 2026. No macro, syntax, notation, axiom, sorry.
-/
import Derived.Test.YtonpihoidjahhaaDoorRows
import GoSem.ClaimSeven
namespace Go.Proofs.YtonpihoidjahhaaDoor
namespace Rows

/-- THE TIED CARD OF 'peatbanklaw31.LinesTells'. -/
def linesTellsCard : Claim7 := { stood := { row := linesTellsRow, standIns := [], harness := (true, "e72ed1085f54c8c0bb9e02b45cb60abe5cd3c3613f4d7dde84d80597ae298a7e"), looks := true }, kinds := [], alts := [], laidByText := true, laidKinds := [.data, .data, .data, .data, .sentinel, .sentinel, .pinned], laidTests := true, laidLooks := .later }
def LinesTellsCardSaid : Prop := Claim7.holds Tryd.pinned (.plain (OpenSpec.ofChange linesTellsSpec)) linesTellsCard

/-- THE TIED CARD OF 'peatbanklaw31.LinesTales'. -/
def linesTalesCard : Claim7 := { stood := { row := linesTalesRow, standIns := [], harness := (true, "e72ed1085f54c8c0bb9e02b45cb60abe5cd3c3613f4d7dde84d80597ae298a7e"), looks := true }, kinds := [], alts := [], laidByText := true, laidKinds := [.data, .data, .data, .data, .sentinel, .sentinel, .pinned], laidTests := true, laidLooks := .later }
def LinesTalesCardSaid : Prop := Claim7.holds Tryd.pinned (.plain (OpenSpec.ofChange linesTalesSpec)) linesTalesCard

/-- THE TIED CARD OF 'peatbanklaw31.LinesBack'. -/
def linesBackCard : Claim7 := { stood := { row := linesBackRow, standIns := [], harness := (true, "e72ed1085f54c8c0bb9e02b45cb60abe5cd3c3613f4d7dde84d80597ae298a7e"), looks := true }, kinds := [], alts := [], laidByText := true, laidKinds := [.data, .data, .data, .data, .sentinel, .sentinel, .pinned], laidTests := true, laidLooks := .later }
def LinesBackCardSaid : Prop := Claim7.holds Tryd.pinned (.plain (OpenSpec.ofChange linesBackSpec)) linesBackCard

/-- THE SECOND FORM's CARD OF 'peatbanklaw31.LinesTells'. -/
def linesTellsUptoCard : Claim7 := { stood := { row := linesTellsUptoRow, standIns := [], harness := (true, "e72ed1085f54c8c0bb9e02b45cb60abe5cd3c3613f4d7dde84d80597ae298a7e"), looks := true }, kinds := [], alts := [], laidByText := true, laidKinds := [.data, .data, .data, .data, .sentinel, .sentinel, .pinned], laidTests := true, laidLooks := .later }
def LinesTellsUptoCardSaid : Prop := Claim7.holds Tryd.pinned (.plain (OpenSpec.upto linesTellsSpec)) linesTellsUptoCard

/-- THE SECOND FORM's CARD OF 'peatbanklaw31.LinesTales'. -/
def linesTalesUptoCard : Claim7 := { stood := { row := linesTalesUptoRow, standIns := [], harness := (true, "e72ed1085f54c8c0bb9e02b45cb60abe5cd3c3613f4d7dde84d80597ae298a7e"), looks := true }, kinds := [], alts := [], laidByText := true, laidKinds := [.data, .data, .data, .data, .sentinel, .sentinel, .pinned], laidTests := true, laidLooks := .later }
def LinesTalesUptoCardSaid : Prop := Claim7.holds Tryd.pinned (.plain (OpenSpec.upto linesTalesSpec)) linesTalesUptoCard

/-- THE SECOND FORM's CARD OF 'peatbanklaw31.LinesBack'. -/
def linesBackUptoCard : Claim7 := { stood := { row := linesBackUptoRow, standIns := [], harness := (true, "e72ed1085f54c8c0bb9e02b45cb60abe5cd3c3613f4d7dde84d80597ae298a7e"), looks := true }, kinds := [], alts := [], laidByText := true, laidKinds := [.data, .data, .data, .data, .sentinel, .sentinel, .pinned], laidTests := true, laidLooks := .later }
def LinesBackUptoCardSaid : Prop := Claim7.holds Tryd.pinned (.plain (OpenSpec.upto linesBackSpec)) linesBackUptoCard
end Rows
end Go.Proofs.YtonpihoidjahhaaDoor
