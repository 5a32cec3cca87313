/-
  what this claim needs of: Fork (written by cut.py).
-/
import Derived.Test.YtgjjdfhoakailaaGreatBMem
namespace Go.Proofs.YtgjjdfhoakailaaGreat
open Go.RowKit
set_option linter.unusedVariables false

section
variable {P : Program} {l : List Oper} {Q : Exit → Act → World → Prop}
end
/-- A goal held: a walk stops here. -/
def HeldG (p : Prop) : Prop := p
theorem heldG {p : Prop} (h : HeldG p) : p := h
end Go.Proofs.YtgjjdfhoakailaaGreat
