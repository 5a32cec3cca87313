/-
  inflate's tables, as package variables: what lies in their blocks; that a stream leaves them alone.
-/
import Derived.Test.YtacidmamfkfipaaDoorStored
namespace Go.Proofs.YtacidmamfkfipaaDoor
open Go.RowKit
set_option linter.unusedVariables false

def TabAt (w : World) (g : Nat) (l : List Int) : Prop := ∀ i, i < l.length → w.cell? ⟨g, i, none⟩ = some (.int .i64 (l.getD i 0))
/-- The five tables. -/
def TabsOk (w : World) : Prop :=
  TabAt w 1 lbases ∧ TabAt w 2 lbits ∧ TabAt w 3 dbases ∧ TabAt w 4 dbits ∧ TabAt w 0 orderL ∧ 5 ≤ w.heap.size
theorem TabAt.keep {w w' : World} {g : Nat} {l : List Int} (h : TabAt w g l) (hk : w'.heap[g]? = w.heap[g]?) : TabAt w' g l := fun i hi => (World.cell?_of_block (a := ⟨g, i, none⟩) hk).trans (h i hi)
theorem TabsOk.keep {w w' : World} (h : TabsOk w) (hs : w.heap.size ≤ w'.heap.size) (hk : ∀ g, g < 5 → w'.heap[g]? = w.heap[g]?) : TabsOk w' := by
  obtain ⟨h1, h2, h3, h4, h5, h6⟩ := h
  exact ⟨h1.keep (hk _ (by decide)), h2.keep (hk _ (by decide)), h3.keep (hk _ (by decide)), h4.keep (hk _ (by decide)), h5.keep (hk _ (by decide)), by omega⟩
theorem TabsOk.below {w w' : World} (h : TabsOk w) (hb : Below w.heap.size w w') : TabsOk w' := h.keep hb.size (fun g hg => hb.block g (by have := h.2.2.2.2.2; omega))
theorem TabsOk.step {w w' : World} {base s r : Nat} (h : TabsOk w) (hst : StStep w w' base s r) (hs : 5 ≤ s) (hr : 5 ≤ r) (hb : 5 ≤ base) : TabsOk w' := h.keep hst.size (fun g hg => hst.low g (by omega) (by omega) (by omega))
theorem lb_bd : ∀ i, i < 29 → 3 ≤ lbases.getD i 0 ∧ lbases.getD i 0 ≤ 258 ∧ 0 ≤ lbits.getD i 0 ∧ lbits.getD i 0 ≤ 5 := by decide
theorem db_bd : ∀ i, i < 30 → 1 ≤ dbases.getD i 0 ∧ dbases.getD i 0 ≤ 24577 ∧ 0 ≤ dbits.getD i 0 ∧ dbits.getD i 0 ≤ 13 := by decide
end Go.Proofs.YtacidmamfkfipaaDoor
