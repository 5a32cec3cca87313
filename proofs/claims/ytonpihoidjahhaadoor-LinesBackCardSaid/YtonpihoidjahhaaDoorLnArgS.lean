/-
  A step that came in as an argument, opened.
-/
import Derived.Test.YtonpihoidjahhaaDoorLnArg
import Derived.Test.YtonpihoidjahhaaDoorLnBackP
namespace Go.Proofs.YtonpihoidjahhaaDoor
open Go.ChangeShapes Go.WideShapes Go.ChangeAt Go.RowKit Go.Deep
set_option linter.unusedVariables false
set_option linter.unusedSimpArgs false

def StepIn (w : World) (v : Value) (x : StepV) : Prop := StRd w v x ∧ StepOk x ∧ x.bytes.length ≤ 140737488351232 ∧ x.fates.length ≤ 140737488351232
section
variable {H : Type} {enc : TypeId × Value → H} {w : World} {base : Nat} {held : Bool}
theorem open_fates {fuel : Nat} {cs : List Value} {x : DataW H × List MemPlace} (h : DataW.trod enc Tryd.prog w base (fun _ => true) held fuel 37 cs = some x) :
    ∃ A len cap zs, cs = [.slice A len cap] ∧ RdI .i64 w A len zs ∧ (∀ z ∈ zs, i64b z) ∧ (Fit Tryd.prog 37 x.1 → len * 8 ≤ reachBytes) := by
  have cf : Tryd.prog.cellsOf 47 = 1 := by kernel_rfl
  have c1 : Tryd.prog.cellsOf 3 = 1 := by kernel_rfl
  have bf : Tryd.prog.bytesOf 47 = 8 := by kernel_rfl
  rcases open_slice1 Tryd.underlying37 cf h with ⟨rfl, _⟩ | ⟨a, len, cap, m, n, V, D, Pl, rfl, hb, hl, hm, hmm, hx, hel⟩
  · exact ⟨none, 0, 0, [], rfl, RdI.nil _, (fun z hz => by cases hz), (fun _ => by rw [Nat.zero_mul]; exact Nat.zero_le _)⟩
  · simp only [if_true] at hmm
    have each : ∀ i, i < len → ∃ z : Int, i64b z ∧ w.cell? (a.add i) = some (.int .i64 z) := by
      intro i hi
      obtain ⟨h1, h2⟩ := hel i (by omega)
      obtain ⟨xs, k, _, _, hlen, hxl, hf⟩ := DataW.trod_struct Tryd.underlying47 h2
      have g0 := hf 0 _ rfl
      simp [c1] at g0
      obtain ⟨y0, rfl⟩ := List.length_eq_one_iff.1 hxl
      simp at g0
      obtain ⟨z, e0, _, f0⟩ := DataW.trod_int Tryd.underlying3 g0
      simp only [List.cons.injEq, and_true] at e0
      exact ⟨z, fit_i64 f0, by rw [h1, e0]⟩
    obtain ⟨q, hq⟩ := choose_lt each
    refine ⟨some a, len, cap, (List.range len).map q, rfl, ⟨by simp, fun h0 => ?_⟩, fun z hz => ?_, fun hft => ?_⟩
    · obtain ⟨b, off, spot⟩ := a
      have g0 := (hq 0 h0).2
      have hspot : spot = none := by simpa [Addr.add] using World.cell?_spot g0
      subst hspot
      refine ⟨b, off, rfl, block_lt_of_cell (by simpa [Addr.add] using g0), fun j hj => ?_⟩
      have := (hq j hj).2
      rw [Addr.add_mid] at this
      rw [this]
      simp [hj]
    · obtain ⟨i, hi, rfl⟩ := List.mem_map.1 hz
      exact (hq i (List.mem_range.1 hi)).1
    · have h1 := hft (cap * 8) (by
        rw [hx]
        simp only [DataW.weights, Tryd.underlying37, bf]
        refine List.mem_cons.2 (.inl ?_)
        rw [List.length_map, List.length_map, List.length_range, List.length_range, hmm, Nat.add_sub_cancel' hl])
      exact Nat.le_trans (Nat.mul_le_mul_right 8 hl) h1
theorem open_step {fuel : Nat} {arr : Array Value} {x : DataW H × List MemPlace} (h : DataW.trod enc Tryd.prog w base (fun _ => true) held fuel 39 (Value.agg arr).cells.toList = some x) (hfit : Fit Tryd.prog 39 x.1) :
    ∃ y : StepV, StepIn w (.agg arr) y := by
  have c1 : Tryd.prog.cellsOf 3 = 1 := by kernel_rfl
  have c2 : Tryd.prog.cellsOf 36 = 1 := by kernel_rfl
  have c3 : Tryd.prog.cellsOf 23 = 1 := by kernel_rfl
  have c4 : Tryd.prog.cellsOf 5 = 1 := by kernel_rfl
  have c5 : Tryd.prog.cellsOf 37 = 1 := by kernel_rfl
  have ct : Tryd.prog.cellsOf 39 = 6 := by kernel_rfl
  have b1 : Tryd.prog.bytesOf 5 = 1 := by kernel_rfl
  obtain ⟨xs, k, _, hx, hlen, hxl, hf⟩ := DataW.trod_struct Tryd.underlying39 h
  obtain ⟨cs, hcs⟩ : ∃ cs, cs = (Value.agg arr).cells.toList := ⟨_, rfl⟩
  have harr : arr = cs.toArray := by rw [hcs]; simp [Value.cells]
  rw [← hcs] at hlen hf
  clear hcs
  obtain ⟨y0, y1, y2, y3, y4, y5, rfl⟩ := list6 hxl
  obtain ⟨a0, a1, a2, a3, a4, a5, rfl⟩ := list6 (hlen.trans ct)
  have g0 := hf 0 _ rfl
  have g1 := hf 1 _ rfl
  have g2 := hf 2 _ rfl
  have g3 := hf 3 _ rfl
  have g4 := hf 4 _ rfl
  have g5 := hf 5 _ rfl
  simp [c1, c2, c3, c5] at g0 g1 g2 g3 g4 g5
  obtain ⟨kd, e0, _, f0⟩ := DataW.trod_int Tryd.underlying36 g0
  obtain ⟨p, e1, _, f1⟩ := DataW.trod_int Tryd.underlying3 g1
  obtain ⟨n, e2, _, f2⟩ := DataW.trod_int Tryd.underlying3 g2
  obtain ⟨s, e3, _, f3⟩ := DataW.trod_int Tryd.underlying3 g3
  obtain ⟨A, l, c, zs, e4, hr, hft⟩ := slice_row Tryd.underlying23 Tryd.underlying5 c4 g4
  obtain ⟨B, m, d, fl, e5, hfr, hfb, hff⟩ := open_fates g5
  simp only [List.cons.injEq, and_true] at e0 e1 e2 e3 e4 e5
  subst e0 e1 e2 e3 e4 e5
  obtain ⟨hrd, hnc, hcm, hwf⟩ := hr.rd
  have hl := hrd.1
  have hm := hfr.1
  rw [hx] at hfit
  have w1 := hft (hfit.part Tryd.underlying39 (j := 4) rfl rfl)
  have w2 := hff (hfit.part Tryd.underlying39 (j := 5) rfl rfl)
  rw [b1] at w1
  unfold reachBytes at w1 w2
  have hk := fit_u8 f0
  refine ⟨⟨kd, p, n, s, zs.take l, fl⟩, ⟨A, c, B, d, ?_, ?_, ?_⟩, ⟨hk.1, hk.2, fit_i64 f1, fit_i64 f2, fit_i64 f3, fun z hz => fit_u8 (hwf z hz), hfb⟩, ?_, ?_⟩
  · rw [harr]
    simp only [hl, hm]
    rfl
  · simp only [hl]; exact hrd
  · simp only [hm]; exact hfr
  · show (zs.take l).length ≤ _
    rw [hl]
    omega
  · show fl.length ≤ _
    omega
end
end Go.Proofs.YtonpihoidjahhaaDoor
