/-
  DeflateRuns and DeflateBack walked.
-/
import Derived.Test.YthmcdohndckniaaDoorDTop
import Derived.Test.YthmcdohndckniaaDoorDLaid
import Derived.Test.YthmcdohndckniaaDoorInfB
namespace Go.Proofs.YthmcdohndckniaaDoor
open Go.RowKit
set_option linter.unusedVariables false

def allTabs (w : World) : Prop := DTabs w ∧ TabsOk w
theorem infl_post {s b : List Int} {most : Int} {w w' : World} {ev : Ending} (h : infOut s most = (b, (s.length : Int), 0)) (hp : InfPost s most w ev w') : ReadsPost s b w ev w' := by
  obtain ⟨A, c, h3, h4, _, h5⟩ := hp.out
  rw [h] at h3 h4
  exact ⟨A, c, h3, h4, h5⟩
/-- What is told where nothing is read. -/
def BadPost (w : World) (ev : Ending) (w' : World) : Prop := ∃ e, e ≠ 0 ∧ ev = .returned (.tuple #[.slice none 0 0, .int .i64 0, .int .i64 e]) ∧ Below w.heap.size w w'
def repU (n : Nat) (c : Int) (i : Nat) : List Int := (List.range n).map fun j => if j < i then c else 0
theorem repU_len (n : Nat) (c : Int) (i : Nat) : (repU n c i).length = n := by simp [repU]
theorem repU_zero (n : Nat) (c : Int) : (repU n c 0).map (Value.int .u8) = List.replicate n (.int .u8 0) := by
  apply List.ext_getElem
  · simp [repU]
  · intro i h1 h2; simp [repU]
theorem repU_all (n : Nat) (c : Int) : repU n c n = List.replicate n c := by
  apply List.ext_getElem
  · simp [repU]
  · intro i h1 h2
    simp only [repU, List.getElem_map, List.getElem_range, List.getElem_replicate]
    rw [if_pos (by simpa [repU] using h1)]
theorem repU_set {n : Nat} {c : Int} {i : Nat} (h : i < n) : (repU n c i).set i c = repU n c (i + 1) := by
  apply List.ext_getElem
  · simp [repU]
  · intro j h1 h2
    rw [List.getElem_set]
    simp only [repU, List.getElem_map, List.getElem_range]
    by_cases hj : i = j
    · subst hj; rw [if_pos rfl, if_pos (by omega)]
    · rw [if_neg hj]
      by_cases hc : j < i
      · rw [if_pos hc, if_pos (by omega)]
      · rw [if_neg hc, if_neg (by omega)]
theorem u8_get {zs : List Int} {i : Nat} (h : i < zs.length) : (zs.map (Value.int .u8))[i]? = some (.int .u8 (zs.getD i 0)) := by
  rw [List.getElem?_map, List.getElem?_eq_getElem h]
  simp [h]
def RuI (n : Nat) (c : Int) (g : Nat) (w : World) (k : Nat) (iv : Value) (wr : World) : Prop :=
  ∃ i, iv = .int .i64 ((i : Nat) : Int) ∧ i + k = n ∧ wr.ownsRow w.heap.size 5 1 (.slice (some ⟨g, 0, none⟩) n n) n ((repU n c i).map (Value.int .u8)) ∧ Below w.heap.size w wr
set_option maxHeartbeats 1600000 in
set_option maxRecDepth 100000 in
theorem runslaw_any (c x : Int) (w : World) (ht : allTabs w) (hc : 0 ≤ c ∧ c < 256) (hx : -9223372036854775808 ≤ x ∧ x ≤ 9223372036854775807) :
    Calls Tryd.prog 6 #[.int .u8 c, .int .i64 x] w (TruePost w) := by
  have AW := Lib.hid (awake07_any w ht.1)
  have HT := Lib.hid ht
  clear ht
  obtain ⟨q, hq⟩ : ∃ q, q = pickI x 65540 := ⟨_, rfl⟩
  have hq9 : 0 ≤ q ∧ q < 65540 := by rw [hq]; exact pick_bd _ _ (by omega)
  have PK := Lib.hid (fun w => pick_any x 65540 w hx (by omega))
  rw [← hq] at PK
  clear hq
  obtain ⟨n, rfl⟩ : ∃ n : Nat, q = (n : Int) := ⟨q.toNat, by omega⟩
  have hn : n < 65540 := by omega
  go_enter Tryd.func6, Tryd.ntmps6
  go_wp2_with fail
  refine AW.out.mono ?_
  rintro ev w1 ⟨rfl, hb1⟩
  have B1 := Lib.hid hb1
  clear hb1 AW
  go_wp2_with fail
  refine (PK.out w1).mono ?_
  rintro ev w2 ⟨rfl, rfl⟩
  go_wp2_with (at_make; refine heldG ?_)
  unfold HeldG
  refine mk_bytes rfl (.tmp 16) (.tmp 16) rfl w.heap.size n _ _ rfl rfl rfl rfl (by omega) B1.out.size ?_
  intro w3 ho3 hg3
  have O3 := Lib.hid ho3
  have B3 := Lib.hid (B1.out.grown hg3 B1.out.size (fun k hk => by cases hk))
  clear ho3 hg3
  go_wp2
  go_loopg [6] n (RuI n c w1.heap.size w)
  case atStart => exact ⟨0, rfl, by omega, by rw [repU_zero]; exact O3.out, B3.out⟩
  case round =>
    clear O3 B3
    obtain ⟨i, rfl, hi, ho, hb⟩ := hrel
    have O := Lib.hid ho
    have B := Lib.hid hb
    by_cases hlt : i < n
    · have hltI : (i : Int) < (n : Int) := by omega
      have q1 := ho.cellAt i (by omega)
      have q2 := ho.frozenAt i
      rw [u8_get (by rw [repU_len]; omega)] at q1
      clear ho hb
      go_wp2
      go_roundg (gk - 1)
      case measure => omega
      case rel =>
        have hst := O.out.stored i (.int .u8 c)
        refine ⟨i + 1, by go_num, by omega, ?_, B.out.grown hst.2 B.out.size (fun k hk => (O.out.lt k hk).1)⟩
        have h1 := hst.1
        rw [← List.map_set, repU_set hlt] at h1
        exact h1
    · obtain rfl : i = n := by omega
      have hr : RdI .u8 wr (some ⟨w1.heap.size, 0, none⟩) i (List.replicate i c) := by
        have h1 := RdI.of_own ho
        rwa [repU_all] at h1
      have HR := Lib.hid hr
      clear hr ho hb O
      by_cases hbig : 65536 < i
      · have hbigI : (65536 : Int) < (i : Int) := by omega
        go_wp2_with fail
        refine (deflate_long (some ⟨w1.heap.size, 0, none⟩) i i wr hbig (by omega)).mono ?_
        rintro ev w5 ⟨rfl, hb5⟩
        have B5 := Lib.hid (show Below w.heap.size w w5 from B.out.trans (hb5.mono B.out.size))
        clear hb5
        go_wp2
        go_ret
        exact ⟨rfl, B5.out⟩
      · have hbigI : ¬ (65536 : Int) < (i : Int) := by omega
        have hf := bestB_facts (b := List.replicate i c) (fun z hz => by rw [List.eq_of_mem_replicate hz]; exact hc) (by rw [List.length_replicate]; omega)
        have hrl := bestB_runs i hc (by omega)
        have hRd := Lib.hid hf.1
        have hfl := hf.2.1
        have hIO := Lib.hid (infOut_reads hf.1 (m := (i : Int)) (by rw [List.length_replicate]; omega) (by omega))
        have hBy := Lib.hid (show ∀ z ∈ List.replicate i c, 0 ≤ z ∧ z < 256 from fun z hz => by rw [List.eq_of_mem_replicate hz]; exact hc)
        have hzl : (List.replicate i c).length = i := List.length_replicate
        clear hf
        generalize hS : bestB (List.replicate i c) = S at *
        generalize List.replicate i c = Z at *
        have HS := Lib.hid hS
        clear hS
        have hrlI : (S.length : Int) ≤ (i : Int) / 100 + 16 := by omega
        have hSl : S.length ≤ 1000000 := by omega
        clear hfl
        go_wp2_with fail
        refine (deflate_any Z (some ⟨w1.heap.size, 0, none⟩) i i wr HR.out hBy.out (by omega) (by omega) (HT.out.1.below B.out)).mono ?_
        rintro ev w5 ⟨v5, rfl, hv5, hb5⟩
        rw [HS.out] at hv5
        obtain ⟨A5, c5, rfl, hc5, ho5⟩ := hv5
        have O5 := Lib.hid ho5
        have L5 := Lib.hid hb5
        have B5 := Lib.hid (show Below w.heap.size w w5 from B.out.trans (hb5.mono B.out.size))
        clear ho5 hb5
        go_wp2_with fail
        refine (inflate_any S A5 S.length c5 (i : Int) w5 (RdI.of_own O5.out) hRd.out.1 (by omega) (HT.out.2.below B5.out)).mono ?_
        intro ev w6 hp
        obtain ⟨A6, c6, rfl, ho6, hb6⟩ := infl_post hIO.out hp
        have O6 := Lib.hid ho6
        have L6 := Lib.hid hb6
        have B6 := Lib.hid (show Below w.heap.size w w6 from B5.out.trans (hb6.mono B5.out.size))
        clear ho6 hb6 hp
        have dS : ((S.length : Int) == (S.length : Int)) = true := by simp
        go_wp2_with fail
        have hr6 : RdI .u8 w6 A6 i Z := by
          have h1 := RdI.of_own O6.out
          rwa [hzl] at h1
        refine (same_bytes Z Z (some ⟨w1.heap.size, 0, none⟩) A6 i i i c6 w6 ((HR.out.below L5.out).below L6.out) hr6 (by omega) (by omega)).mono ?_
        rintro ev w7 ⟨rfl, hb7⟩
        have B7 := Lib.hid (show Below w.heap.size w w7 from B6.out.trans (hb7.mono B6.out.size))
        clear hb7
        have ds : decide (Z = Z) = true := by simp
        go_wp2
        go_ret
        exact ⟨rfl, B7.out⟩
end Go.Proofs.YthmcdohndckniaaDoor
namespace Go.Proofs.YthmcdohndckniaaDoor
open Go.ChangeShapes Go.WideShapes Go.ChangeAt Go.RowKit

def laidA : List (String × DataW Unit) := [("peatbank/deflate.lengths", Rows.laid_peatbank_deflate_lengths), ("peatbank/deflate.distances", Rows.laid_peatbank_deflate_distances), ("peatbank/deflate.order", Rows.laid_peatbank_deflate_order), ("peatbank/inflate.lengthBases", Rows.laid_peatbank_inflate_lengthBases), ("peatbank/inflate.lengthBits", Rows.laid_peatbank_inflate_lengthBits), ("peatbank/inflate.distBases", Rows.laid_peatbank_inflate_distBases), ("peatbank/inflate.distBits", Rows.laid_peatbank_inflate_distBits), ("peatbank/inflate.order", Rows.laid_peatbank_inflate_order)]
theorem atabs_of_laid {W : World} (h : laidMetH Tryd.prog laidA W) : allTabs W := by
  rw [MakeChecks.laidMetH_plain _ _ _ (by kernel_rfl)] at h
  obtain ⟨ps, h1, _, _⟩ := h
  obtain ⟨d1, d2, d3, q, h1⟩ := dheads h1
  have a0 : (Tryd.prog.globals[4]?).map (·.type) = some 99 := by kernel_rfl
  have a1 : (Tryd.prog.globals[5]?).map (·.type) = some 99 := by kernel_rfl
  have a2 : (Tryd.prog.globals[6]?).map (·.type) = some 100 := by kernel_rfl
  have a3 : (Tryd.prog.globals[7]?).map (·.type) = some 100 := by kernel_rfl
  have a4 : (Tryd.prog.globals[1]?).map (·.type) = some 78 := by kernel_rfl
  have ci : Tryd.prog.cellsOf 3 = 1 := by kernel_rfl
  obtain ⟨t1, q, h2⟩ := laid_head (l := lbases) h1 (show Tryd.prog.globalNamed "peatbank/inflate.lengthBases" = some 4 by kernel_rfl) a0 Tryd.underlying99 Tryd.underlying3 ci rfl rfl
  obtain ⟨t2, q, h3⟩ := laid_head (l := lbits) h2 (show Tryd.prog.globalNamed "peatbank/inflate.lengthBits" = some 5 by kernel_rfl) a1 Tryd.underlying99 Tryd.underlying3 ci rfl rfl
  obtain ⟨t3, q, h4⟩ := laid_head (l := dbases) h3 (show Tryd.prog.globalNamed "peatbank/inflate.distBases" = some 6 by kernel_rfl) a2 Tryd.underlying100 Tryd.underlying3 ci rfl rfl
  obtain ⟨t4, q, h5⟩ := laid_head (l := dbits) h4 (show Tryd.prog.globalNamed "peatbank/inflate.distBits" = some 7 by kernel_rfl) a3 Tryd.underlying100 Tryd.underlying3 ci rfl rfl
  obtain ⟨t5, q, h6⟩ := laid_head (l := orderL) h5 (show Tryd.prog.globalNamed "peatbank/inflate.order" = some 1 by kernel_rfl) a4 Tryd.underlying78 Tryd.underlying3 ci rfl rfl
  have b1 := at_heap (t1 0 (by decide))
  have b2 := at_heap (t2 0 (by decide))
  have b3 := at_heap (t3 0 (by decide))
  have b4 := at_heap (t4 0 (by decide))
  have b5 := at_heap (t5 0 (by decide))
  have b6 := at_heap (d1 0 (by decide))
  have b7 := at_heap (d2 0 (by decide))
  have b8 := at_heap (d3 0 (by decide))
  exact ⟨⟨d1, d2, d3, by omega⟩, ⟨t1, t2, t3, t4, t5, by omega⟩⟩
theorem door_metA (os : Os) (args : Array Value) : laidMetH Tryd.prog laidA ((World.doorLaid Tryd.prog 400 os).forCall (fun _ _ => 0) ⟨#[], args, []⟩).memory :=
  laidMetH_of_parts3 (fuel := 8) (laidMet_of_run' 8 (by kernel_rfl) (by kernel_rfl)) (by kernel_rfl) (by kernel_rfl)
end Go.Proofs.YthmcdohndckniaaDoor
