/-
  InflateReads walked.
-/
import Derived.Test.YtacidmamfkfipaaDoorInfTop
namespace Go.Proofs.YtacidmamfkfipaaDoor
open Go.RowKit
set_option linter.unusedVariables false

set_option maxHeartbeats 1600000 in
set_option maxRecDepth 100000 in
theorem infReads_walk (bs : List Int) (A : Option Addr) (n cap : Nat) (most : Int) (w : World) (h : RdI .u8 w A n bs) (hB : Bytes bs) (ht : TabsOk w) :
    Calls Tryd.prog 3 #[.slice A n cap, .int .i64 most] w fun e w' => e = .returned (.bool true) ∧ Below w.heap.size w w' := by
  have HR := Lib.hid h
  have HL := Lib.hid h.1
  have HBy := Lib.hid hB
  have TB := Lib.hid ht
  have AW := Lib.hid (awake_any w ht)
  clear h hB ht
  by_cases hn : 1500 < n
  · have hnI : (1500 : Int) < n := by omega
    have dn : decide ((1500 : Int) < n) = true := by simpa using hnI
    go_enter Tryd.func3, Tryd.ntmps3
    go_wp2_with (refine AW.out.mono ?_; rintro ev w1 ⟨rfl, hb1⟩; have B1 := Lib.hid hb1; clear hb1)
    go_ret
    exact ⟨rfl, B1.out⟩
  · have hnI : ¬ (1500 : Int) < n := by omega
    have dn : decide ((1500 : Int) < n) = false := by simpa using hnI
    by_cases hm : 6000 < most ∧ most ≤ 65536
    · obtain ⟨hm1, hm2⟩ := hm
      have d1 : decide (6000 < most) = true := by simpa using hm1
      have d2 : decide (most ≤ 65536) = true := by simpa using hm2
      go_enter Tryd.func3, Tryd.ntmps3
      go_wp2_with (refine AW.out.mono ?_; rintro ev w1 ⟨rfl, hb1⟩; have B1 := Lib.hid hb1; clear hb1)
      go_ret
      exact ⟨rfl, B1.out⟩
    · by_cases h1 : 6000 < most
      · have d1 : decide (6000 < most) = true := by simpa using h1
        have d2 : decide (most ≤ 65536) = false := by simp; omega
        clear hm
        go_enter Tryd.func3, Tryd.ntmps3
        go_wp2_with (refine AW.out.mono ?_; rintro ev w1 ⟨rfl, hb1⟩; have B1 := Lib.hid hb1; clear hb1)
        refine (lent_bytes bs A n cap w1 (HR.out.below B1.out) (by omega)).mono ?_
        rintro ev w2 ⟨g, c, rfl, hc, ho, hb2⟩
        have OL := Lib.hid ho
        have B2 := Lib.hid (below_chain B1.out hb2)
        clear ho hb2
        go_wp2_with fail
        refine (inflate_any bs _ n c most w2 (rd_own_prefix OL.out HL.out) HBy.out (by omega) (TB.out.below B2.out)).mono ?_
        rintro ev w3 hp3
        obtain ⟨A3, c3, rfl, o3, -, hb3⟩ := hp3.out
        have O3 := Lib.hid o3
        have N3 := Lib.hid hb3
        have B3 := Lib.hid (below_chain B2.out hb3)
        clear hp3 o3 hb3
        go_wp2_with fail
        refine (rinflate_any bs A n cap most w3 (HR.out.below B3.out) HBy.out (by omega)).mono ?_
        rintro ev w4 hp4
        obtain ⟨A4, c4, rfl, o4, -, hb4⟩ := hp4.out
        have O4 := Lib.hid o4
        have N4 := Lib.hid hb4
        have B4 := Lib.hid (below_chain B3.out hb4)
        clear hp4 o4 hb4
        have hlen := infOut_len bs most
        generalize infOut bs most = X at *
        obtain ⟨out, N, e⟩ := X
        simp only at *
        have de : (e == e) = true := by simp
        have dN : (N == N) = true := by simp
        go_wp2_with fail
        refine (same_bytes out out A3 A4 out.length out.length c3 c4 w4 ((RdI.of_own O3.out).below N4.out) (RdI.of_own O4.out) (by omega) (by omega)).mono ?_
        rintro ev w5 ⟨rfl, hb5⟩
        have N5 := Lib.hid hb5
        have B5 := Lib.hid (below_chain B4.out hb5)
        clear hb5
        have ds : decide (out = out) = true := by simp
        go_wp2_with fail
        have N35 := Lib.hid (below_chain (below_chain N3.out N4.out) N5.out)
        refine (kept_bytes bs A g n c cap _ w5 (HR.out.below B5.out) (own_below OL.out N35.out) hc (by omega)).mono ?_
        rintro ev w6 ⟨rfl, hb6⟩
        have B6 := Lib.hid (below_chain B5.out hb6)
        clear hb6
        go_wp2
        go_ret
        exact ⟨rfl, B6.out⟩
      · have d1 : decide (6000 < most) = false := by simpa using h1
        clear hm
        go_enter Tryd.func3, Tryd.ntmps3
        go_wp2_with (refine AW.out.mono ?_; rintro ev w1 ⟨rfl, hb1⟩; have B1 := Lib.hid hb1; clear hb1)
        refine (lent_bytes bs A n cap w1 (HR.out.below B1.out) (by omega)).mono ?_
        rintro ev w2 ⟨g, c, rfl, hc, ho, hb2⟩
        have OL := Lib.hid ho
        have B2 := Lib.hid (below_chain B1.out hb2)
        clear ho hb2
        go_wp2_with fail
        refine (inflate_any bs _ n c most w2 (rd_own_prefix OL.out HL.out) HBy.out (by omega) (TB.out.below B2.out)).mono ?_
        rintro ev w3 hp3
        obtain ⟨A3, c3, rfl, o3, -, hb3⟩ := hp3.out
        have O3 := Lib.hid o3
        have N3 := Lib.hid hb3
        have B3 := Lib.hid (below_chain B2.out hb3)
        clear hp3 o3 hb3
        go_wp2_with fail
        refine (rinflate_any bs A n cap most w3 (HR.out.below B3.out) HBy.out (by omega)).mono ?_
        rintro ev w4 hp4
        obtain ⟨A4, c4, rfl, o4, -, hb4⟩ := hp4.out
        have O4 := Lib.hid o4
        have N4 := Lib.hid hb4
        have B4 := Lib.hid (below_chain B3.out hb4)
        clear hp4 o4 hb4
        have hlen := infOut_len bs most
        generalize infOut bs most = X at *
        obtain ⟨out, N, e⟩ := X
        simp only at *
        have de : (e == e) = true := by simp
        have dN : (N == N) = true := by simp
        go_wp2_with fail
        refine (same_bytes out out A3 A4 out.length out.length c3 c4 w4 ((RdI.of_own O3.out).below N4.out) (RdI.of_own O4.out) (by omega) (by omega)).mono ?_
        rintro ev w5 ⟨rfl, hb5⟩
        have N5 := Lib.hid hb5
        have B5 := Lib.hid (below_chain B4.out hb5)
        clear hb5
        have ds : decide (out = out) = true := by simp
        go_wp2_with fail
        have N35 := Lib.hid (below_chain (below_chain N3.out N4.out) N5.out)
        refine (kept_bytes bs A g n c cap _ w5 (HR.out.below B5.out) (own_below OL.out N35.out) hc (by omega)).mono ?_
        rintro ev w6 ⟨rfl, hb6⟩
        have B6 := Lib.hid (below_chain B5.out hb6)
        clear hb6
        go_wp2
        go_ret
        exact ⟨rfl, B6.out⟩
end Go.Proofs.YtacidmamfkfipaaDoor
