/-
  What a law's listed tables give its walk: the first of a list.
-/
import Derived.Test.YtlhaehefhhcgaaaDoorStored
import Derived.OpenShut
import Derived.LaidMore
import Derived.ProofKit
import Derived.MakeChecks
namespace Go.Proofs.YtlhaehefhhcgaaaDoor
open Go.ChangeShapes Go.WideShapes Go.ChangeAt Go.RowKit
set_option linter.unusedVariables false

theorem laid_head {P : Program} {n : String} {d : DataW Unit} {r : List (String × DataW Unit)} {ps : List MemPlace} {W : World} (h : DataW.LaidVars P W ((n, d) :: r) ps) {g : Nat} {t e : TypeId} {N : Nat} {l : List Int}
    (hg : P.globalNamed n = some g) (ht : (P.globals[g]?).map (·.type) = some t) (hu : P.underlying t = some (.array N e)) (he : P.underlying e = some (.int .i64)) (hc : P.cellsOf e = 1) (hN : l.length = N) (hd : d = .agg (l.map fun z => .lit (.int .i64 z))) :
    TabAt W g l ∧ ∃ q, DataW.LaidVars P W r q := by
  obtain ⟨g0, t0, cs0, f0, p0, q0, hg0, ht0, hv0, hd0, hr, _⟩ := h
  obtain rfl := Option.some.inj (hg.symm.trans hg0)
  obtain rfl := Option.some.inj (ht.symm.trans ht0)
  refine ⟨fun i hi => ?_, q0, hr⟩
  obtain ⟨xs, m1, rfl, hx1, hlen, hn3, hel⟩ := DataW.trod_array hu hd0
  rw [hd] at hx1
  injection hx1 with hx1 _
  injection hx1 with hx1
  have hi2 : i < N := by omega
  have h0 := hel i hi2
  have hx : xs[i]? = some (xs[i]'(by omega)) := by simp
  rw [hx] at h0
  obtain ⟨k, e1, e2, _⟩ := DataW.trod_int he h0
  have hk : k = l.getD i 0 := by
    have h3 : (xs.map (·.1))[i]? = (l.map fun z => (DataW.lit (Lit.int .i64 z) : DataW Unit))[i]? := by rw [← hx1]
    rw [List.getElem?_map, hx, List.getElem?_map, List.getElem?_eq_getElem hi, e2] at h3
    simp only [Option.map_some, Option.some.injEq] at h3
    injection h3 with h3
    injection h3 with _ h3
    simp [hi, h3]
  rw [World.var?_cell hg hv0 i, ← hk]
  rw [hc, Nat.mul_one] at e1
  have h4 : (cs0.toList.drop i)[0]? = some (.int .i64 k) := by
    have h5 : ((cs0.toList.drop i).take 1)[0]? = some (.int .i64 k) := by rw [e1]; rfl
    rwa [List.getElem?_take_of_lt (by omega)] at h5
  rw [List.getElem?_drop] at h4
  simpa using h4
theorem at_heap {W : World} {g i : Nat} {v : Value} (h : W.cell? ⟨g, i, none⟩ = some v) : g < W.heap.size := by
  rcases Nat.lt_or_ge g W.heap.size with h1 | h1
  · exact h1
  · exfalso
    unfold World.cell? at h
    simp only [Array.getElem?_eq_none h1] at h
    cases h
end Go.Proofs.YtlhaehefhhcgaaaDoor
