/-
  what this claim needs of: Fork (written by cut.py).
-/
import Derived.Test.YtpadifphnbdbpaaGreatPMem
namespace Go.Proofs.YtpadifphnbdbpaaGreat
open Go.RowKit
set_option linter.unusedVariables false

/-- A goal held: a walk stops here. -/
def HeldG (p : Prop) : Prop := p
end Go.Proofs.YtpadifphnbdbpaaGreat
