/-
  A row that is cut in two.
-/
import Derived.Test.YtacidmamfkfipaaDoorBase
namespace Go.Proofs.YtacidmamfkfipaaDoor
open Go.RowKit
set_option linter.unusedVariables false

theorem rd_take {k : IntKind} {w : World} {A : Option Addr} {n : Nat} {zs : List Int} (h : RdI k w A n zs) (p : Nat) (hp : p ≤ n) : RdI k w A p (zs.take p) := by
  refine ⟨by rw [List.length_take, h.1]; omega, fun hn => ?_⟩
  obtain ⟨b, off, rfl, hlt, hc⟩ := h.2 (by omega)
  refine ⟨b, off, rfl, hlt, fun j hj => ?_⟩
  rw [hc j (by omega)]
  simp [hj]
theorem rd_from {k : IntKind} {w : World} {b off n : Nat} {zs : List Int} (h : RdI k w (some ⟨b, off, none⟩) n zs) (p : Nat) (hp : p ≤ n) : RdI k w (some ⟨b, off + p, none⟩) (n - p) (zs.drop p) := by
  refine ⟨by rw [List.length_drop, h.1], fun hn => ?_⟩
  obtain ⟨b, off, e, hlt, hc⟩ := h.2 (by omega)
  injection e with e
  injection e with e1 e2
  subst e1
  subst e2
  refine ⟨_, _, rfl, hlt, fun j hj => ?_⟩
  rw [Nat.add_assoc, hc (p + j) (by omega)]
  simp
end Go.Proofs.YtacidmamfkfipaaDoor
