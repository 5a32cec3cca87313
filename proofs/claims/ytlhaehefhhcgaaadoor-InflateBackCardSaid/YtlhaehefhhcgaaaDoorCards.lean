/-
  DERIVED. GIVEN WITH THE SEED: THE CARDS: each row of YtlhaehefhhcgaaaDoorRows.lean that lists a variable, with what it lists TIED to the program's text (the seventh form; the later family's looks); each row that meets fmt, with fmt's text TOLD by the authors' own Lean function (tested against real Go, not proved from fmt's source: count such statements apart). THE CARD IS WHAT COUNTS. Prove the row's statement (the work); the ties are given (YtlhaehefhhcgaaaDoorTie.lean); close each card by the builder's one call (the guide's Derived/Test/ToyasCard.lean, 'card_holds'). Laid BY PROGRAM, IN A SANDBOX (cutbox-door.mjs). By AI agents, Wed Nov 11 2026. No macro, syntax, notation, axiom, sorry.
-/
import Derived.Test.YtlhaehefhhcgaaaDoorRows
import GoSem.ClaimSeven
namespace Go.Proofs.YtlhaehefhhcgaaaDoor
namespace Rows

/-- THE TIED CARD OF 'peatbanklaw06.InflateReads'. -/
def inflateReadsCard : Claim7 := { stood := { row := inflateReadsRow, standIns := [], harness := (true, "1fb88667be4dfff29998f3b8748b36d40703171f15c2587e2c700b9bbec60d57"), looks := false }, kinds := [], alts := [], laidByText := true, laidKinds := [.data, .data, .data, .data, .widerDeep], laidTests := true, laidLooks := .later }
def InflateReadsCardSaid : Prop := Claim7.holds Tryd.pinned (.plain (OpenSpec.ofChange inflateReadsSpec)) inflateReadsCard

/-- THE TIED CARD OF 'peatbanklaw06.InflateCuts'. -/
def inflateCutsCard : Claim7 := { stood := { row := inflateCutsRow, standIns := [], harness := (true, "1fb88667be4dfff29998f3b8748b36d40703171f15c2587e2c700b9bbec60d57"), looks := false }, kinds := [], alts := [], laidByText := true, laidKinds := [.data, .data, .data, .data, .widerDeep], laidTests := true, laidLooks := .later }
def InflateCutsCardSaid : Prop := Claim7.holds Tryd.pinned (.plain (OpenSpec.ofChange inflateCutsSpec)) inflateCutsCard

/-- THE TIED CARD OF 'peatbanklaw06.InflateLimits'. -/
def inflateLimitsCard : Claim7 := { stood := { row := inflateLimitsRow, standIns := [], harness := (true, "1fb88667be4dfff29998f3b8748b36d40703171f15c2587e2c700b9bbec60d57"), looks := false }, kinds := [], alts := [], laidByText := true, laidKinds := [.data, .data, .data, .data, .widerDeep], laidTests := true, laidLooks := .later }
def InflateLimitsCardSaid : Prop := Claim7.holds Tryd.pinned (.plain (OpenSpec.ofChange inflateLimitsSpec)) inflateLimitsCard

/-- THE TIED CARD OF 'peatbanklaw06.InflateAlike'. -/
def inflateAlikeCard : Claim7 := { stood := { row := inflateAlikeRow, standIns := [], harness := (true, "1fb88667be4dfff29998f3b8748b36d40703171f15c2587e2c700b9bbec60d57"), looks := false }, kinds := [], alts := [], laidByText := true, laidKinds := [.data, .data, .data, .data, .widerDeep], laidTests := true, laidLooks := .later }
def InflateAlikeCardSaid : Prop := Claim7.holds Tryd.pinned (.plain (OpenSpec.ofChange inflateAlikeSpec)) inflateAlikeCard

/-- THE TIED CARD OF 'peatbanklaw06.InflateBack'. -/
def inflateBackCard : Claim7 := { stood := { row := inflateBackRow, standIns := [], harness := (true, "1fb88667be4dfff29998f3b8748b36d40703171f15c2587e2c700b9bbec60d57"), looks := false }, kinds := [], alts := [], laidByText := true, laidKinds := [.data, .data, .data, .data, .widerDeep], laidTests := true, laidLooks := .later }
def InflateBackCardSaid : Prop := Claim7.holds Tryd.pinned (.plain (OpenSpec.ofChange inflateBackSpec)) inflateBackCard

/-- THE SECOND FORM's CARD OF 'peatbanklaw06.InflateReads'. -/
def inflateReadsUptoCard : Claim7 := { stood := { row := inflateReadsUptoRow, standIns := [], harness := (true, "1fb88667be4dfff29998f3b8748b36d40703171f15c2587e2c700b9bbec60d57"), looks := false }, kinds := [], alts := [], laidByText := true, laidKinds := [.data, .data, .data, .data, .widerDeep], laidTests := true, laidLooks := .later }
def InflateReadsUptoCardSaid : Prop := Claim7.holds Tryd.pinned (.plain (OpenSpec.upto inflateReadsSpec)) inflateReadsUptoCard

/-- THE SECOND FORM's CARD OF 'peatbanklaw06.InflateCuts'. -/
def inflateCutsUptoCard : Claim7 := { stood := { row := inflateCutsUptoRow, standIns := [], harness := (true, "1fb88667be4dfff29998f3b8748b36d40703171f15c2587e2c700b9bbec60d57"), looks := false }, kinds := [], alts := [], laidByText := true, laidKinds := [.data, .data, .data, .data, .widerDeep], laidTests := true, laidLooks := .later }
def InflateCutsUptoCardSaid : Prop := Claim7.holds Tryd.pinned (.plain (OpenSpec.upto inflateCutsSpec)) inflateCutsUptoCard

/-- THE SECOND FORM's CARD OF 'peatbanklaw06.InflateLimits'. -/
def inflateLimitsUptoCard : Claim7 := { stood := { row := inflateLimitsUptoRow, standIns := [], harness := (true, "1fb88667be4dfff29998f3b8748b36d40703171f15c2587e2c700b9bbec60d57"), looks := false }, kinds := [], alts := [], laidByText := true, laidKinds := [.data, .data, .data, .data, .widerDeep], laidTests := true, laidLooks := .later }
def InflateLimitsUptoCardSaid : Prop := Claim7.holds Tryd.pinned (.plain (OpenSpec.upto inflateLimitsSpec)) inflateLimitsUptoCard

/-- THE SECOND FORM's CARD OF 'peatbanklaw06.InflateAlike'. -/
def inflateAlikeUptoCard : Claim7 := { stood := { row := inflateAlikeUptoRow, standIns := [], harness := (true, "1fb88667be4dfff29998f3b8748b36d40703171f15c2587e2c700b9bbec60d57"), looks := false }, kinds := [], alts := [], laidByText := true, laidKinds := [.data, .data, .data, .data, .widerDeep], laidTests := true, laidLooks := .later }
def InflateAlikeUptoCardSaid : Prop := Claim7.holds Tryd.pinned (.plain (OpenSpec.upto inflateAlikeSpec)) inflateAlikeUptoCard

/-- THE SECOND FORM's CARD OF 'peatbanklaw06.InflateBack'. -/
def inflateBackUptoCard : Claim7 := { stood := { row := inflateBackUptoRow, standIns := [], harness := (true, "1fb88667be4dfff29998f3b8748b36d40703171f15c2587e2c700b9bbec60d57"), looks := false }, kinds := [], alts := [], laidByText := true, laidKinds := [.data, .data, .data, .data, .widerDeep], laidTests := true, laidLooks := .later }
def InflateBackUptoCardSaid : Prop := Claim7.holds Tryd.pinned (.plain (OpenSpec.upto inflateBackSpec)) inflateBackUptoCard
end Rows
end Go.Proofs.YtlhaehefhhcgaaaDoor
