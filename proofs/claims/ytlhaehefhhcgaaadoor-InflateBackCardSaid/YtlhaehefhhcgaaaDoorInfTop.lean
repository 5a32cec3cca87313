/-
  The law's examples of layer 6.
  Plain: a text that may be as long as it is; one that may not.
  What a law's listed tables give its walk.
  What Inflate hands back, as one value.
-/
import Derived.Test.YtlhaehefhhcgaaaDoorInfB
import Derived.Test.YtlhaehefhhcgaaaDoorLaid
import Derived.Test.YtlhaehefhhcgaaaDoorKitBytes
import Derived.Laws.BytesArg
import Derived.Test.YtlhaehefhhcgaaaDoorInfSpec
import Derived.Test.YtlhaehefhhcgaaaDoorStored
import Derived.Test.YtlhaehefhhcgaaaDoorRows
import Derived.OpenShut
import Derived.LaidMore
import Derived.ProofKit
import Derived.MakeChecks
import Derived.Test.YtlhaehefhhcgaaaDoorRefC
namespace Go.Proofs.YtlhaehefhhcgaaaDoor
open Go.RowKit
set_option linter.unusedVariables false

theorem rd_made (w : World) (t : TypeId) (bs : List Int) (cs : Array Value) (hc : cs = (bs.map (Value.int .u8)).toArray) (n : Nat) (hn : n = bs.length) : RdI .u8 (w.alloc (.cells cs t)) (some ⟨w.heap.size, 0, none⟩) n bs := by
  subst hn
  refine ⟨rfl, fun h => ⟨_, 0, rfl, by simp, fun j hj => ?_⟩⟩
  rw [Nat.zero_add]
  refine (Blk.made w t cs).cell ?_
  subst hc
  simp [hj]
theorem aw1 : inflateR (bitsOf [1, 3, 0, 252, 255, 97, 98, 99]) 3 = .ok [97, 98, 99] 64 := by kernel_rfl
theorem aw2 : inflateR (bitsOf [75, 76, 74, 6, 0]) 9 = .ok [97, 98, 99] 34 := by kernel_rfl
theorem aw3 : inflateR (bitsOf [75, 76, 74, 6, 0]) 2 = .bad true := by kernel_rfl
theorem aw4 : inflateR (bitsOf [75, 76, 74]) 9 = .bad false := by kernel_rfl
theorem bytes_dec {l : List Int} (h : l.all (fun z => decide (0 ≤ z) && decide (z < 256)) = true) : Bytes l := fun z hz => by
  have := List.all_eq_true.1 h z hz
  simpa using this
theorem conv_abc {w : World} {A : Option Addr} {c : Nat} (h : RdI .u8 w A 3 [97, 98, 99]) : (convert 22 9 (.slice A 3 c)).run Tryd.prog w = .ok (.string { data := #[97, 98, 99] }) w := by
  obtain ⟨b, off, rfl, _, hc⟩ := h.2 (by omega)
  exact run_convert_bytes_arg (P := Tryd.prog) w 22 5 Tryd.underlying22 Tryd.underlying5 b off 3 c [97, 98, 99] rfl hc 9 Tryd.underlying9
def AwPost (w : World) (ev : Ending) (w' : World) : Prop := ev = .returned (.bool true) ∧ Below w.heap.size w w'
set_option maxHeartbeats 1600000 in
set_option maxRecDepth 100000 in
theorem awake_any (w : World) (ht : TabsOk w) : Calls Tryd.prog 8 #[] w (AwPost w) := by
  have TB := Lib.hid ht
  clear ht
  go_enter Tryd.func8, Tryd.ntmps8
  go_wp2_with fail
  have B1 := Lib.hid ((Below.refl w.heap.size w).alloc (Nat.le_refl _) (.cells #[.int .u8 1, .int .u8 3, .int .u8 0, .int .u8 252, .int .u8 255, .int .u8 97, .int .u8 98, .int .u8 99] 5))
  refine (inflate_any [1, 3, 0, 252, 255, 97, 98, 99] _ 8 8 3 _ (rd_made w _ _ _ rfl 8 rfl) (bytes_dec rfl) (by omega) (TB.out.below B1.out)).mono ?_
  rintro ev w1 ⟨hb1, ha1⟩
  rw [if_neg (by omega), show (3 : Int).toNat = 3 from rfl, aw1] at ha1
  obtain ⟨A1, c1, rfl, o1, -⟩ := ha1
  have M1 := Lib.hid (below_chain B1.out hb1)
  have R1 := Lib.hid (RdI.of_own o1)
  clear hb1 o1 B1
  go_wp2_with fail
  have B2 := Lib.hid ((Below.refl w1.heap.size w1).alloc (Nat.le_refl _) (.cells #[.int .u8 75, .int .u8 76, .int .u8 74, .int .u8 6, .int .u8 0] 5))
  refine (inflate_any [75, 76, 74, 6, 0] _ 5 5 9 _ (rd_made w1 _ _ _ rfl 5 rfl) (bytes_dec rfl) (by omega) ((TB.out.below M1.out).below B2.out)).mono ?_
  rintro ev w2 ⟨hb2, ha2⟩
  rw [if_neg (by omega), show (9 : Int).toNat = 9 from rfl, aw2] at ha2
  obtain ⟨A2, c2, rfl, o2, -⟩ := ha2
  have N2 := Lib.hid (below_chain B2.out hb2)
  have M2 := Lib.hid (below_chain M1.out N2.out)
  have R2 := Lib.hid (RdI.of_own o2)
  clear hb2 o2 B2
  go_wp2_with fail
  have B3 := Lib.hid ((Below.refl w2.heap.size w2).alloc (Nat.le_refl _) (.cells #[.int .u8 75, .int .u8 76, .int .u8 74, .int .u8 6, .int .u8 0] 5))
  refine (inflate_any [75, 76, 74, 6, 0] _ 5 5 2 _ (rd_made w2 _ _ _ rfl 5 rfl) (bytes_dec rfl) (by omega) ((TB.out.below M2.out).below B3.out)).mono ?_
  rintro ev w3 ⟨hb3, ha3⟩
  rw [if_neg (by omega), show (2 : Int).toNat = 2 from rfl, aw3] at ha3
  obtain rfl := ha3
  have N3 := Lib.hid (below_chain B3.out hb3)
  have M3 := Lib.hid (below_chain M2.out N3.out)
  clear hb3 B3
  go_wp2_with fail
  have B4 := Lib.hid ((Below.refl w3.heap.size w3).alloc (Nat.le_refl _) (.cells #[.int .u8 75, .int .u8 76, .int .u8 74] 5))
  refine (inflate_any [75, 76, 74] _ 3 3 9 _ (rd_made w3 _ _ _ rfl 3 rfl) (bytes_dec rfl) (by omega) ((TB.out.below M3.out).below B4.out)).mono ?_
  rintro ev w4 ⟨hb4, ha4⟩
  rw [if_neg (by omega), show (9 : Int).toNat = 9 from rfl, aw4] at ha4
  obtain rfl := ha4
  have N4 := Lib.hid (below_chain B4.out hb4)
  have M4 := Lib.hid (below_chain M3.out N4.out)
  clear hb4 B4
  have v1 := conv_abc (c := c1) ((R1.out.below (N2.out)).below N3.out |>.below N4.out)
  have v2 := conv_abc (c := c2) (R2.out.below N3.out |>.below N4.out)
  go_wp2
  go_ret
  exact ⟨rfl, M4.out⟩
end Go.Proofs.YtlhaehefhhcgaaaDoor
namespace Go.Proofs.YtlhaehefhhcgaaaDoor
open Go.ChangeShapes Go.WideShapes Go.ChangeAt Go.RowKit
set_option linter.unusedVariables false

def laidT : List (String × DataW Unit) := [("peatbank/inflate.lengthBases", Rows.laid_peatbank_inflate_lengthBases), ("peatbank/inflate.lengthBits", Rows.laid_peatbank_inflate_lengthBits), ("peatbank/inflate.distBases", Rows.laid_peatbank_inflate_distBases), ("peatbank/inflate.distBits", Rows.laid_peatbank_inflate_distBits), ("peatbank/inflate.order", Rows.laid_peatbank_inflate_order)]
theorem tabs_of_laid {W : World} (h : laidMetH Tryd.prog laidT W) : TabsOk W := by
  rw [MakeChecks.laidMetH_plain _ _ _ (by kernel_rfl)] at h
  obtain ⟨ps, h1, _, _⟩ := h
  have a0 : (Tryd.prog.globals[1]?).map (·.type) = some 157 := by kernel_rfl
  have a1 : (Tryd.prog.globals[2]?).map (·.type) = some 157 := by kernel_rfl
  have a2 : (Tryd.prog.globals[3]?).map (·.type) = some 158 := by kernel_rfl
  have a3 : (Tryd.prog.globals[4]?).map (·.type) = some 158 := by kernel_rfl
  have a4 : (Tryd.prog.globals[0]?).map (·.type) = some 113 := by kernel_rfl
  have ci : Tryd.prog.cellsOf 3 = 1 := by kernel_rfl
  obtain ⟨t1, q, h2⟩ := laid_head (l := lbases) h1 (show Tryd.prog.globalNamed "peatbank/inflate.lengthBases" = some 1 by kernel_rfl) a0 Tryd.underlying157 Tryd.underlying3 ci rfl rfl
  obtain ⟨t2, q, h3⟩ := laid_head (l := lbits) h2 (show Tryd.prog.globalNamed "peatbank/inflate.lengthBits" = some 2 by kernel_rfl) a1 Tryd.underlying157 Tryd.underlying3 ci rfl rfl
  obtain ⟨t3, q, h4⟩ := laid_head (l := dbases) h3 (show Tryd.prog.globalNamed "peatbank/inflate.distBases" = some 3 by kernel_rfl) a2 Tryd.underlying158 Tryd.underlying3 ci rfl rfl
  obtain ⟨t4, q, h5⟩ := laid_head (l := dbits) h4 (show Tryd.prog.globalNamed "peatbank/inflate.distBits" = some 4 by kernel_rfl) a3 Tryd.underlying158 Tryd.underlying3 ci rfl rfl
  obtain ⟨t5, q, h6⟩ := laid_head (l := orderL) h5 (show Tryd.prog.globalNamed "peatbank/inflate.order" = some 0 by kernel_rfl) a4 Tryd.underlying113 Tryd.underlying3 ci rfl rfl
  have b1 := at_heap (t1 0 (by decide))
  have b2 := at_heap (t2 0 (by decide))
  have b3 := at_heap (t3 0 (by decide))
  have b4 := at_heap (t4 0 (by decide))
  have b5 := at_heap (t5 0 (by decide))
  exact ⟨t1, t2, t3, t4, t5, by omega⟩
end Go.Proofs.YtlhaehefhhcgaaaDoor
namespace Go.Proofs.YtlhaehefhhcgaaaDoor
open Go.RowKit
/-- The door's own heap meets the condition. -/
theorem door_met (os : Os) (args : Array Value) : laidMetH Tryd.prog laidT ((World.doorLaid Tryd.prog 400 os).forCall (fun _ _ => 0) ⟨#[], args, []⟩).memory :=
  laidMetH_of_parts3 (fuel := 8) (laidMet_of_run' 8 (by kernel_rfl) (by kernel_rfl)) (by kernel_rfl) (by kernel_rfl)
end Go.Proofs.YtlhaehefhhcgaaaDoor
