/-
  peatbankkit's marks of fates and steps, walked.
-/
import Derived.Test.YtfehgpjnlkgekaaGreatDoorFlatG
import Derived.Test.YtfehgpjnlkgekaaGreatDoorLnRead
namespace Go.Proofs.YtfehgpjnlkgekaaGreatDoor
open Go.RowKit
set_option linter.unusedVariables false
set_option linter.unusedSimpArgs false

def mfv (k i : Int) : Int := 1000003 * (k + 7) + i
def mkF (k i : Nat) : List Value := [.int .i64 (mfv k i)]
def mkS (k i : Nat) : List Value := [.int .u8 0, .int .i64 (mfv k i), .int .i64 0, .int .i64 0, .slice none 0 0, .slice none 0 0]
theorem infoRowF : (Tryz.prog.info? 25).map (fun i => (i.zero, i.size, i.bytes)) = some (some (.slice none 0 0), 1, 24) := by kernel_rfl
theorem infoRowS : (Tryz.prog.info? 33).map (fun i => (i.zero, i.size, i.bytes)) = some (some (.slice none 0 0), 1, 24) := by kernel_rfl
theorem infoStepZ : (Tryz.prog.info? 27).map (fun i => (i.zero, i.size, i.bytes)) = some (some (.agg #[.int .u8 0, .int .i64 0, .int .i64 0, .int .i64 0, .slice none 0 0, .slice none 0 0]), 6, 80) := by kernel_rfl
theorem tset (xs : List Value) (m : Nat) (v : Value) (h : m < xs.length) : (xs.set m v).take (m + 1) = xs.take m ++ [v] := by
  rw [List.take_add_one, List.getElem?_set_self h, List.take_set_of_le (Nat.le_refl _)]
  rfl
/-- Six cells of an element are turned. -/
theorem set6 {w : World} {base g n c : Nat} {E : TypeId} {xs : List Value} (h : w.ownsRow base E 6 (.slice (some ⟨g, 0, none⟩) n c) n xs) (i : Nat) (hi : i < n) (v0 v1 v2 v3 v4 v5 : Value) :
    ∃ ys, ((((((w.setCell ⟨g, i * 6, none⟩ v0).setCell ⟨g, i * 6 + 1, none⟩ v1).setCell ⟨g, i * 6 + 2, none⟩ v2).setCell ⟨g, i * 6 + 3, none⟩ v3).setCell ⟨g, i * 6 + 4, none⟩ v4).setCell ⟨g, i * 6 + 5, none⟩ v5).ownsRow base E 6 (.slice (some ⟨g, 0, none⟩) n c) n ys ∧
      w.grownBy ((((((w.setCell ⟨g, i * 6, none⟩ v0).setCell ⟨g, i * 6 + 1, none⟩ v1).setCell ⟨g, i * 6 + 2, none⟩ v2).setCell ⟨g, i * 6 + 3, none⟩ v3).setCell ⟨g, i * 6 + 4, none⟩ v4).setCell ⟨g, i * 6 + 5, none⟩ v5) (some g) ∧
      ys.take ((i + 1) * 6) = xs.take (i * 6) ++ [v0, v1, v2, v3, v4, v5] := by
  have hl := h.1
  have h0 := (h.stored (i * 6) v0).1
  have g0 : w.grownBy (w.setCell ⟨g, i * 6, none⟩ v0) (some g) := grown_put _ _ _
  have t0 := tset xs (i * 6) v0 (by omega)
  have l0 : (xs.set (i * 6) v0).length = n * 6 := by rw [List.length_set, hl]
  generalize w.setCell ⟨g, i * 6, none⟩ v0 = w0 at *
  generalize xs.set (i * 6) v0 = x0 at *
  have h1 := (h0.stored (i * 6 + 1) v1).1
  have g1 : w.grownBy (w0.setCell ⟨g, i * 6 + 1, none⟩ v1) (some g) := g0.trans (grown_put _ _ _)
  have t1 := tset x0 (i * 6 + 1) v1 (by omega)
  have l1 : (x0.set (i * 6 + 1) v1).length = n * 6 := by rw [List.length_set, l0]
  generalize w0.setCell ⟨g, i * 6 + 1, none⟩ v1 = w1 at *
  generalize x0.set (i * 6 + 1) v1 = x1 at *
  have h2 := (h1.stored (i * 6 + 2) v2).1
  have g2 : w.grownBy (w1.setCell ⟨g, i * 6 + 2, none⟩ v2) (some g) := g1.trans (grown_put _ _ _)
  have t2 := tset x1 (i * 6 + 2) v2 (by omega)
  have l2 : (x1.set (i * 6 + 2) v2).length = n * 6 := by rw [List.length_set, l1]
  generalize w1.setCell ⟨g, i * 6 + 2, none⟩ v2 = w2 at *
  generalize x1.set (i * 6 + 2) v2 = x2 at *
  have h3 := (h2.stored (i * 6 + 3) v3).1
  have g3 : w.grownBy (w2.setCell ⟨g, i * 6 + 3, none⟩ v3) (some g) := g2.trans (grown_put _ _ _)
  have t3 := tset x2 (i * 6 + 3) v3 (by omega)
  have l3 : (x2.set (i * 6 + 3) v3).length = n * 6 := by rw [List.length_set, l2]
  generalize w2.setCell ⟨g, i * 6 + 3, none⟩ v3 = w3 at *
  generalize x2.set (i * 6 + 3) v3 = x3 at *
  have h4 := (h3.stored (i * 6 + 4) v4).1
  have g4 : w.grownBy (w3.setCell ⟨g, i * 6 + 4, none⟩ v4) (some g) := g3.trans (grown_put _ _ _)
  have t4 := tset x3 (i * 6 + 4) v4 (by omega)
  have l4 : (x3.set (i * 6 + 4) v4).length = n * 6 := by rw [List.length_set, l3]
  generalize w3.setCell ⟨g, i * 6 + 4, none⟩ v4 = w4 at *
  generalize x3.set (i * 6 + 4) v4 = x4 at *
  have h5 := (h4.stored (i * 6 + 5) v5).1
  have g5 : w.grownBy (w4.setCell ⟨g, i * 6 + 5, none⟩ v5) (some g) := g4.trans (grown_put _ _ _)
  have t5 := tset x4 (i * 6 + 5) v5 (by omega)
  refine ⟨_, h5, g5, ?_⟩
  rw [show (i + 1) * 6 = i * 6 + 5 + 1 by omega, t5, t4, t3, t2, t1, t0]
  simp
/-- The six cells of an element. -/
theorem get6 {w : World} {base g n c : Nat} {E : TypeId} {xs : List Value} (h : w.ownsRow base E 6 (.slice (some ⟨g, 0, none⟩) n c) n xs) (i : Nat) (hi : i < n) :
    ∃ x0 x1 x2 x3 x4 x5, w.cell? ⟨g, i * 6, none⟩ = some x0 ∧ w.cell? ⟨g, i * 6 + 1, none⟩ = some x1 ∧ w.cell? ⟨g, i * 6 + 2, none⟩ = some x2 ∧ w.cell? ⟨g, i * 6 + 3, none⟩ = some x3 ∧ w.cell? ⟨g, i * 6 + 4, none⟩ = some x4 ∧ w.cell? ⟨g, i * 6 + 5, none⟩ = some x5 := by
  have hl := h.1
  have q : ∀ j, j < 6 → w.cell? ⟨g, i * 6 + j, none⟩ = some (xs.getD (i * 6 + j) undef) := fun j hj => by
    rw [h.cellAt (i * 6 + j) (by omega), List.getD_eq_getElem?_getD, List.getElem?_eq_getElem (by omega)]
    rfl
  exact ⟨_, _, _, _, _, _, q 0 (by omega), q 1 (by omega), q 2 (by omega), q 3 (by omega), q 4 (by omega), q 5 (by omega)⟩
theorem markFate_any (k i : Int) (w : World) (hk : 0 ≤ k ∧ k ≤ 1000000000) (hi : 0 ≤ i ∧ i ≤ 1000000000000) :
    Calls Tryz.prog 90 #[.int .i64 k, .int .i64 i] w fun e w' => e = .returned (.agg #[.int .i64 (mfv k i)]) ∧ Below w.heap.size w w' := by
  go_enter Tryz.func90, Tryz.ntmps90
  have La := Lib.hid (show Below w.heap.size w (w.alloc (Obj.cells #[.int .i64 0] 50)) from (Below.refl _ _).alloc (Nat.le_refl _) _)
  have Ka := Lib.hid (Blk.made w 50 #[.int .i64 0])
  go_wp2_with (go_at_call 85; refine (mark8 k i _ hk hi).mono ?_; rintro ev w' ⟨rfl, rfl⟩)
  refine bodyPost_ret (results_blk rfl _ w.heap.size rfl _ _ (Blk.made w 50 #[.int .i64 (mfv k i)]) _ Tryz.underlying50 rfl 1 (by kernel_rfl) rfl) rfl ?_
  exact ⟨rfl, (Below.refl _ _).alloc (Nat.le_refl _) _⟩
set_option maxHeartbeats 1600000 in
theorem markStep_any (k i : Int) (w : World) (hk : 0 ≤ k ∧ k ≤ 1000000000) (hi : 0 ≤ i ∧ i ≤ 1000000000000) :
    Calls Tryz.prog 103 #[.int .i64 k, .int .i64 i] w fun e w' => e = .returned (.agg #[.int .u8 0, .int .i64 (mfv k i), .int .i64 0, .int .i64 0, .slice none 0 0, .slice none 0 0]) ∧ Below w.heap.size w w' := by
  go_enter Tryz.func103, Tryz.ntmps103
  go_wp2_with fail
  obtain ⟨wa, hwa⟩ : ∃ wa, wa = w.alloc (Obj.cells (stepVs (zeroS 0) (.slice none 0 0) (.slice none 0 0)) 27) := ⟨_, rfl⟩
  have KY := Lib.hid (show Blk wa w.heap.size 27 (stepVs (zeroS 0) (.slice none 0 0) (.slice none 0 0)) by rw [hwa]; exact Blk.made _ _ _)
  have La := Lib.hid (show Below w.heap.size w wa by rw [hwa]; exact (Below.refl _ _).alloc (Nat.le_refl _) _)
  unfold stepVs zeroS at hwa
  simp only at hwa
  rw [← hwa]
  clear hwa
  refine (mark8 k i wa hk hi).mono ?_
  rintro ev w' ⟨rfl, rfl⟩
  unfold stepVs zeroS at KY
  have y0 := KY.out.cell (i := 0) rfl
  have z0 := KY.out.free 0
  have y1 := KY.out.cell (i := 1) rfl
  have z1 := KY.out.free 1
  have y2 := KY.out.cell (i := 2) rfl
  have z2 := KY.out.free 2
  have y3 := KY.out.cell (i := 3) rfl
  have z3 := KY.out.free 3
  have y4 := KY.out.cell (i := 4) rfl
  have z4 := KY.out.free 4
  have y5 := KY.out.cell (i := 5) rfl
  have z5 := KY.out.free 5
  go_wp2
  have S6 := six_facts KY.out (.int .u8 0) (.int .i64 (mfv k i)) (.int .i64 0) (.int .i64 0) (.slice none 0 0) (.slice none 0 0)
  refine bodyPost_ret (results_blk rfl _ w.heap.size rfl _ _ S6.1 _ Tryz.underlying27 rfl 6 infoStep rfl) rfl ?_
  exact ⟨rfl, S6.2.1 _ _ La.out (Nat.le_refl _)⟩
end Go.Proofs.YtfehgpjnlkgekaaGreatDoor
