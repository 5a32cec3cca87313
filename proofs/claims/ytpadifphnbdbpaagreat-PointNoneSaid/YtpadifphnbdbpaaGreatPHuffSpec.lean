/-
  what this claim needs of: HuffSpec, HuffCounts, Pairs (written by cut.py).
-/
import Derived.Test.YtpadifphnbdbpaaGreatChecked
import Derived.Test.YtpadifphnbdbpaaGreatPMem
import Derived.Lib.AppendZeros
namespace Go.Proofs.YtpadifphnbdbpaaGreat

/-- How many of the lengths are l. -/
def cnt (zs : List Int) (l : Nat) : Nat := (zs.filter (fun z => z == (l : Int))).length
/-- The row that 'counts' makes: place 0 stays 0. -/
def cntI (zs : List Int) (l : Nat) : Int := if l = 0 then 0 else (cnt zs l : Int)
/-- What is left of the codes of l bits. -/
def leftAt (zs : List Int) : Nat → Int
  | 0 => 1
  | l + 1 => 2 * leftAt zs l - cntI zs (l + 1)
def leftsOk (zs : List Int) : Nat → Bool
  | 0 => true
  | l + 1 => leftsOk zs l && decide (0 ≤ leftAt zs (l + 1))
end Go.Proofs.YtpadifphnbdbpaaGreat
namespace Go.Proofs.YtpadifphnbdbpaaGreat
set_option linter.unusedVariables false

end Go.Proofs.YtpadifphnbdbpaaGreat
namespace Go.Proofs.YtpadifphnbdbpaaGreat
open Go.RowKit
set_option linter.unusedVariables false

/-- The relation of the second loop: the world stands. -/
def C2 (zs : List Int) (l i : Value) : Prop := ∃ k : Nat, k ≤ 15 ∧ i = .int .i64 k ∧ l = .int .i64 (leftAt zs k) ∧ leftsOk zs k = true

end Go.Proofs.YtpadifphnbdbpaaGreat
namespace Go.Proofs.YtpadifphnbdbpaaGreat
open Go.RowKit
set_option linter.unusedVariables false

theorem own_below {w w' : World} {base : Nat} {e : TypeId} {size n : Nat} {v : Value} {xs : List Value} (h : w.ownsRow base e size v n xs) (hb : Below w.heap.size w w') : w'.ownsRow base e size v n xs :=
  h.kept (row := none) ⟨hb.os, hb.tape, hb.output, hb.size, fun k hk _ => hb.block k hk⟩ (by cases hh : v.ownBlock <;> simp)
end Go.Proofs.YtpadifphnbdbpaaGreat
