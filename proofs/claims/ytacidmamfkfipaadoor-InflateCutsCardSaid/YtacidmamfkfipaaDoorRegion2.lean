/-
  One step more of a region's walk: an operation that only reads, between two stages.
-/
import Derived.Test.YtacidmamfkfipaaDoorRegion
namespace Go.Proofs.YtacidmamfkfipaaDoor
theorem qs_mid {P : Program} {l : List Oper} {Q : Exit → Act → World → Prop} {S : Nat → World → Prop} {o : Oper} {r : List (Oper × Option Nat)} {k m : Nat} {a : Act} {w : World} {v : Value} (hw : Region.wanted o (yielded l.toArray a.tmps) = true)
    (hv : ∀ j w', k ≤ j → j ≤ m → S j w' → (execOp a.eval o).run P w' = .ok (.value v) w') (h : wpQs P l Q S r k (a.put o.dst v) w) : wpQs P l Q S ((o, some m) :: r) k a w :=
  ⟨v, .inl ⟨hw, fun w' ⟨j, h1, h2, h3⟩ => hv j w' h1 h2 h3⟩, h⟩
end Go.Proofs.YtacidmamfkfipaaDoor
