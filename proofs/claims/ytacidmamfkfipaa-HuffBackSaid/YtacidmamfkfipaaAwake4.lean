/-
  The huff laws' anchor: it is awake.
-/
import Derived.Test.YtacidmamfkfipaaLengths
import Derived.Test.YtacidmamfkfipaaHuffCodes
namespace Go.Proofs.Ytacidmamfkfipaa
open Go.RowKit
set_option linter.unusedVariables false

theorem rd_of_blk {w : World} {B : Nat} {t : TypeId} {zs : List Int} (h : Blk w B t (zs.map (Value.int .i64)).toArray) : RdI .i64 w (some ⟨B, 0, none⟩) zs.length zs :=
  ⟨rfl, fun _ => ⟨B, 0, rfl, h.lt, fun j hj => by rw [Nat.zero_add, h.cellq]; simp [hj]⟩⟩
theorem own_cells {w : World} {base : Nat} {e : TypeId} {A : Option Addr} {n c : Nat} {zs : List Int} (h : w.ownsRow base e 1 (.slice A n c) n (zs.map (Value.int .i64))) (hn : 0 < n) :
    ∃ g, A = some ⟨g, 0, none⟩ ∧ g < w.heap.size ∧ ∀ j, j < n → w.cell? ⟨g, j, none⟩ = some (.int .i64 (zs.getD j 0)) := by
  obtain ⟨g, cap, hv, _, hlt⟩ := h.form hn
  have hl : zs.length = n := by simpa using h.1
  obtain ⟨rfl, rfl⟩ : A = some ⟨g, 0, none⟩ ∧ c = cap := by injection hv with a b c; exact ⟨a, c⟩
  refine ⟨g, rfl, hlt, fun j hj => ?_⟩
  rw [h.cellAt j (by omega)]
  have : j < zs.length := by omega
  simp [this]

set_option maxHeartbeats 1600000 in
theorem awake4 (w : World) : Calls Try.prog 10 #[] w fun e w' => e = .returned (.bool true) ∧ Below w.heap.size w w' := by
  go_enter Try.func10, Try.ntmps10
  go_wp2_with fail
  refine (codes_any [2, 1, 3, 3] _ 4 4 _ (rd_of_blk (zs := [2, 1, 3, 3]) (Blk.made _ _ _)) (by omega)).mono ?_
  rintro ev w1 (⟨h, _⟩ | ⟨_, A1, c1, rfl, ho1, hb1⟩)
  · exact absurd h (by decide)
  have HB1 := Lib.hid (below_chain (show Below w.heap.size w _ from (Below.refl _ _).alloc (Nat.le_refl _) _) hb1)
  have O1 := Lib.hid ho1
  clear ho1 hb1
  go_wp2_with fail
  refine (codes_any [1, 1, 1] _ 3 3 _ (rd_of_blk (zs := [1, 1, 1]) (Blk.made _ _ _)) (by omega)).mono ?_
  rintro ev w2 (⟨_, rfl, hb2⟩ | ⟨h, _⟩)
  rotate_left 1
  · exact absurd h (by decide)
  have H12 := Lib.hid (below_chain (show Below w1.heap.size w1 _ from (Below.refl _ _).alloc (Nat.le_refl _) _) hb2)
  have O2 := Lib.hid (own_below O1.out H12.out)
  have HB2 := Lib.hid (below_chain HB1.out H12.out)
  clear hb2
  go_wp2_with fail
  refine (lengths_any 19 stableSaid_small (by omega) [1, 1, 2, 4] _ 4 4 2 _ (rd_of_blk (zs := [1, 1, 2, 4]) (Blk.made _ _ _)) (by omega) (by omega) (.inl (by decide))).mono ?_
  rintro ev w3 (⟨h, _⟩ | ⟨_, A3, c3, rfl, ho3, hb3⟩)
  · exact absurd h (by decide)
  have H23 := Lib.hid (below_chain (show Below w2.heap.size w2 _ from (Below.refl _ _).alloc (Nat.le_refl _) _) hb3)
  have O3 := Lib.hid ho3
  have O1' := Lib.hid (own_below O2.out H23.out)
  have HB3 := Lib.hid (below_chain HB2.out H23.out)
  clear ho3 hb3
  obtain ⟨g1, rfl, _, hc1⟩ := own_cells O1'.out (by omega)
  obtain ⟨g3, rfl, _, hc3⟩ := own_cells O3.out (by omega)
  have a0 := hc1 0 (by omega)
  have a1 := hc1 1 (by omega)
  have a2 := hc1 2 (by omega)
  have a3 := hc1 3 (by omega)
  have b0 := hc3 0 (by omega)
  have b3 := hc3 3 (by omega)
  rw [show (codesOf [2, 1, 3, 3]).getD 0 0 = 2 by decide] at a0
  rw [show (codesOf [2, 1, 3, 3]).getD 1 0 = 0 by decide] at a1
  rw [show (codesOf [2, 1, 3, 3]).getD 2 0 = 6 by decide] at a2
  rw [show (codesOf [2, 1, 3, 3]).getD 3 0 = 7 by decide] at a3
  rw [show (lengthsOf [1, 1, 2, 4] (2 : Int).toNat).getD 0 0 = 2 by decide] at b0
  rw [show (lengthsOf [1, 1, 2, 4] (2 : Int).toNat).getD 3 0 = 2 by decide] at b3
  clear hc1 hc3
  go_wp2
  go_ret
  exact ⟨rfl, HB3.out⟩
end Go.Proofs.Ytacidmamfkfipaa
