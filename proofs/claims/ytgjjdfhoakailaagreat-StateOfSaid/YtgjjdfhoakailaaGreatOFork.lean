/-
  what this claim needs of: Fork (written by cut.py).
-/
import Derived.Test.YtgjjdfhoakailaaGreatOMem
namespace Go.Proofs.YtgjjdfhoakailaaGreat
open Go.RowKit
set_option linter.unusedVariables false

section
variable {P : Program} {l : List Oper} {Q : Exit → Act → World → Prop}
end
/-- A goal held: a walk stops here. -/
def HeldG (p : Prop) : Prop := p
end Go.Proofs.YtgjjdfhoakailaaGreat
