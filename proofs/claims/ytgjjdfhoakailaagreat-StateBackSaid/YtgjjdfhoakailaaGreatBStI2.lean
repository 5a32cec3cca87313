/-
  what this claim needs of: StI2 (written by cut.py).
-/
import Derived.Test.YtgjjdfhoakailaaGreatBStG
namespace Go.Proofs.YtgjjdfhoakailaaGreat
open Go.RowKit Go.Maps Go.Sort Go.Shelf
set_option linter.unusedVariables false
set_option linter.unusedSimpArgs false

section
variable {P : Program} {w : World} {ops : Array Oper} {rest : List Oper} {o : Oper} {a : Act} {Q : Exit → Act → World → Prop}
end
instance : DecidableEq Pl := fun a b => decidable_of_iff ((a.pos, a.sec, a.uni, a.ref) = (b.pos, b.sec, b.uni, b.ref)) (by cases a; cases b; simp)
instance : DecidableEq Sl := fun a b => decidable_of_iff ((a.key, a.off, a.mask) = (b.key, b.off, b.mask)) (by cases a; cases b; simp)
def rightR (i : It) : Bool :=
  if i.kind = 1 then placeB i.pl true && decide (i.snap = 0) && decide (i.unit = 0) && decide (i.sl = zSl)
  else if i.kind = 2 then inB i.snap 0 1073741824 && inB i.unit 0 511 && sliceB i.sl && decide (i.key = zKey) && decide (i.pl = zPl)
  else if i.kind = 3 then inB i.snap 1 1073741824 && decide (i.unit = 0) && decide (i.sl = zSl) && decide (i.key = zKey) && decide (i.pl = zPl)
  else false
/-- Do two items stand for one thing? -/
def alikeB (a b : It) : Bool := decide (a.kind = b.kind) && (if a.kind = 1 then decide (a.key = b.key) else if a.kind = 2 then decide (a.snap = b.snap) && decide (a.unit = b.unit) else decide (a.snap = b.snap))
end Go.Proofs.YtgjjdfhoakailaaGreat
