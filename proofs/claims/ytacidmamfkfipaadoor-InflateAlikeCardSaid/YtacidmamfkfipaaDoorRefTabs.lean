/-
  The document's tables.
-/
import Derived.Test.YtacidmamfkfipaaDoorRefStored
namespace Go.Proofs.YtacidmamfkfipaaDoor
open Go.RowKit
set_option linter.unusedVariables false

def TabPost (l : List Int) (n : Nat) (w : World) (ev : Ending) (w' : World) : Prop :=
  ∃ g, ev = .returned (.slice (some ⟨g, 0, none⟩) n n) ∧ Blk w' g 3 (l.map (Value.int .i64)).toArray ∧ w.heap.size ≤ g ∧ Below w.heap.size w w'
theorem tab_cell {w : World} {g : Nat} {l : List Int} (h : Blk w g 3 (l.map (Value.int .i64)).toArray) {j : Nat} (hj : j < l.length) : w.cell? ⟨g, j, none⟩ = some (.int .i64 (l.getD j 0)) := by
  refine h.cell ?_
  simp [hj]
theorem rlb_any (w : World) : Calls Tryd.prog 42 #[] w (TabPost lbases 29 w) := by
  go_enter Tryd.func42, Tryd.ntmps42
  go_wp2
  go_ret
  exact ⟨w.heap.size, rfl, Blk.made _ _ _, Nat.le_refl _, (Below.refl _ _).alloc (Nat.le_refl _) _⟩
theorem rlx_any (w : World) : Calls Tryd.prog 43 #[] w (TabPost lbits 29 w) := by
  go_enter Tryd.func43, Tryd.ntmps43
  go_wp2
  go_ret
  exact ⟨w.heap.size, rfl, Blk.made _ _ _, Nat.le_refl _, (Below.refl _ _).alloc (Nat.le_refl _) _⟩
theorem rdb_any (w : World) : Calls Tryd.prog 44 #[] w (TabPost dbases 30 w) := by
  go_enter Tryd.func44, Tryd.ntmps44
  go_wp2
  go_ret
  exact ⟨w.heap.size, rfl, Blk.made _ _ _, Nat.le_refl _, (Below.refl _ _).alloc (Nat.le_refl _) _⟩
theorem rdx_any (w : World) : Calls Tryd.prog 45 #[] w (TabPost dbits 30 w) := by
  go_enter Tryd.func45, Tryd.ntmps45
  go_wp2
  go_ret
  exact ⟨w.heap.size, rfl, Blk.made _ _ _, Nat.le_refl _, (Below.refl _ _).alloc (Nat.le_refl _) _⟩
theorem rorder_any (w : World) : Calls Tryd.prog 50 #[] w (TabPost orderL 19 w) := by
  go_enter Tryd.func50, Tryd.ntmps50
  go_wp2
  go_ret
  exact ⟨w.heap.size, rfl, Blk.made _ _ _, Nat.le_refl _, (Below.refl _ _).alloc (Nat.le_refl _) _⟩
end Go.Proofs.YtacidmamfkfipaaDoor
