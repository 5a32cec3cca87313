/-
  what this claim needs of: PnArg (written by cut.py).
-/
import Derived.Test.YtpadifphnbdbpaaGreatPMem
import Derived.ProofKit
import Derived.OpenShut
import Derived.ShutString
import Derived.ChangeOld
import Derived.Below
import Derived.Test.YtpadifphnbdbpaaGreatPPnH1
import Derived.Deep.Slices
import Derived.ChangeArms
import Derived.SizedLaws
import Derived.WideShapes
import Derived.ChangeSlices
namespace Go.Proofs.YtpadifphnbdbpaaGreat
open Go.ChangeShapes Go.WideShapes Go.ChangeAt Go.RowKit Go.Deep Go.Maps
set_option linter.unusedVariables false
set_option linter.unusedSimpArgs false
section
variable {H : Type} {enc : TypeId × Value → H} {w : World} {base : Nat} {held : Bool}
theorem pa_i64 {n : Int} (h : (Lit.int .i64 n).wf = true) : rI n := by
  simp only [Lit.wf, decide_eq_true_eq, Bool.and_eq_true, IntKind.min, IntKind.max, IntKind.signed, IntKind.bits, if_true] at h
  unfold rI
  omega
theorem pa_int {fuel : Nat} {cs : List Value} {x : DataW H × List MemPlace} (h : DataW.trod enc Tryz.prog w base (fun _ => true) held fuel 3 cs = some x) : ∃ n : Int, cs = [.int .i64 n] ∧ rI n := by
  obtain ⟨z, e, _, hz⟩ := DataW.trod_int Tryz.underlying3 h
  exact ⟨z, e, pa_i64 hz⟩
theorem pa_len5 {α : Type} {l : List α} (h : l.length = 5) : ∃ a0 a1 a2 a3 a4, l = [a0, a1, a2, a3, a4] := by
  match l, h with
  | [a0, a1, a2, a3, a4], _ => exact ⟨_, _, _, _, _, rfl⟩
theorem pa_cut {cs a : List Value} {o n : Nat} (h : (cs.drop o).take n = a) : cs.drop o = a ++ cs.drop (o + n) := by
  rw [← h, ← List.drop_drop, List.take_append_drop]
theorem pa_geo {fuel : Nat} {cs : List Value} {x : DataW H × List MemPlace} (h : DataW.trod enc Tryz.prog w base (fun _ => true) held fuel 23 cs = some x) : ∃ g : Geo, cs = geC g ∧ GeB g := by
  have c1 : Tryz.prog.cellsOf 3 = 1 := by kernel_rfl
  have ct : Tryz.prog.cellsOf 23 = 5 := by kernel_rfl
  obtain ⟨xs, k, _, _, hlen, hxl, hf⟩ := DataW.trod_struct Tryz.underlying23 h
  rw [ct] at hlen
  match xs, hxl with
  | [y0, y1, y2, y3, y4], _ =>
    obtain ⟨v0, v1, v2, v3, v4, rfl⟩ := pa_len5 hlen
    have g0 : DataW.trod enc Tryz.prog w base (fun _ => true) held k 3 ((([v0, v1, v2, v3, v4] : List Value).drop 0).take (Tryz.prog.cellsOf 3)) = some y0 := hf 0 _ rfl
    rw [c1] at g0
    have g1 : DataW.trod enc Tryz.prog w base (fun _ => true) held k 3 ((([v0, v1, v2, v3, v4] : List Value).drop 1).take (Tryz.prog.cellsOf 3)) = some y1 := hf 1 _ rfl
    rw [c1] at g1
    have g2 : DataW.trod enc Tryz.prog w base (fun _ => true) held k 3 ((([v0, v1, v2, v3, v4] : List Value).drop 2).take (Tryz.prog.cellsOf 3)) = some y2 := hf 2 _ rfl
    rw [c1] at g2
    have g3 : DataW.trod enc Tryz.prog w base (fun _ => true) held k 3 ((([v0, v1, v2, v3, v4] : List Value).drop 3).take (Tryz.prog.cellsOf 3)) = some y3 := hf 3 _ rfl
    rw [c1] at g3
    have g4 : DataW.trod enc Tryz.prog w base (fun _ => true) held k 3 ((([v0, v1, v2, v3, v4] : List Value).drop 4).take (Tryz.prog.cellsOf 3)) = some y4 := hf 4 _ rfl
    rw [c1] at g4
    simp only [List.drop_zero, List.drop_succ_cons, List.take_succ_cons, List.take_zero] at g0 g1 g2 g3 g4
    obtain ⟨z0, e0, b0⟩ := pa_int g0
    obtain ⟨z1, e1, b1⟩ := pa_int g1
    obtain ⟨z2, e2, b2⟩ := pa_int g2
    obtain ⟨z3, e3, b3⟩ := pa_int g3
    obtain ⟨z4, e4, b4⟩ := pa_int g4
    simp only [List.cons.injEq, and_true] at e0 e1 e2 e3 e4
    subst e0 e1 e2 e3 e4
    exact ⟨⟨z0, z1, z2, z3, z4⟩, rfl, b0, b1, b2, b3, b4⟩
theorem pa_hd {fuel : Nat} {cs : List Value} {x : DataW H × List MemPlace} (h : DataW.trod enc Tryz.prog w base (fun _ => true) held fuel 25 cs = some x) : ∃ Y : Hd, cs = hdC Y ∧ GeB Y.geo ∧ rI Y.num ∧ rI Y.snap := by
  have c1 : Tryz.prog.cellsOf 3 = 1 := by kernel_rfl
  have cg : Tryz.prog.cellsOf 23 = 5 := by kernel_rfl
  have ct : Tryz.prog.cellsOf 25 = 9 := by kernel_rfl
  obtain ⟨xs, k, _, _, hlen, hxl, hf⟩ := DataW.trod_struct Tryz.underlying25 h
  rw [ct] at hlen
  match xs, hxl with
  | [y0, y1, y2, y3, y4], _ =>
    have g0 : DataW.trod enc Tryz.prog w base (fun _ => true) held k 23 ((cs.drop 0).take (Tryz.prog.cellsOf 23)) = some y0 := hf 0 _ rfl
    rw [cg] at g0
    have g1 : DataW.trod enc Tryz.prog w base (fun _ => true) held k 3 ((cs.drop 5).take (Tryz.prog.cellsOf 3)) = some y1 := hf 1 _ rfl
    rw [c1] at g1
    have g2 : DataW.trod enc Tryz.prog w base (fun _ => true) held k 3 ((cs.drop 6).take (Tryz.prog.cellsOf 3)) = some y2 := hf 2 _ rfl
    rw [c1] at g2
    have g3 : DataW.trod enc Tryz.prog w base (fun _ => true) held k 3 ((cs.drop 7).take (Tryz.prog.cellsOf 3)) = some y3 := hf 3 _ rfl
    rw [c1] at g3
    have g4 : DataW.trod enc Tryz.prog w base (fun _ => true) held k 3 ((cs.drop 8).take (Tryz.prog.cellsOf 3)) = some y4 := hf 4 _ rfl
    rw [c1] at g4
    obtain ⟨g, e0, b0⟩ := pa_geo g0
    obtain ⟨z1, e1, b1⟩ := pa_int g1
    obtain ⟨z2, e2, b2⟩ := pa_int g2
    obtain ⟨z3, e3, b3⟩ := pa_int g3
    obtain ⟨z4, e4, b4⟩ := pa_int g4
    have q0 := pa_cut e0
    have q1 := pa_cut e1
    have q2 := pa_cut e2
    have q3 := pa_cut e3
    have q4 := pa_cut e4
    refine ⟨⟨g, z1, z2, z3, z4⟩, ?_, b0, b1, b4⟩
    simp only [Nat.zero_add, Nat.reduceAdd, List.drop_zero] at q0 q1 q2 q3 q4
    rw [q0, q1, q2, q3, q4, List.drop_eq_nil_of_le (by omega), List.append_nil]
    simp [hdC]
end
end Go.Proofs.YtpadifphnbdbpaaGreat
