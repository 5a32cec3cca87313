/-
  LinesTells, walked.
-/
import Derived.Test.YtfehgpjnlkgekaaGreatDoorLnArg
namespace Go.Proofs.YtfehgpjnlkgekaaGreatDoor
open Go.RowKit
set_option linter.unusedVariables false
set_option linter.unusedSimpArgs false

set_option maxHeartbeats 1600000 in
theorem tells_any (x : TaleS) (v : Value) (w : World) (hx : TaleIn w v x) (ht : LnT w) :
    Calls Tryz.prog 13 #[v] w fun e w' => e = .returned (.bool true) ∧ Below w.heap.size w w' := by
  obtain ⟨⟨A, c, A', c', rfl, ha, hb⟩, hby, hsl, he, hsn, hnum, hbn, hsn'⟩ := hx
  have HT := Lib.hid ht
  have HA := Lib.hid ha
  have HB := Lib.hid hb
  have HBy := Lib.hid hby
  have HSl := Lib.hid hsl
  have HNum := Lib.hid hnum
  have HE := Lib.hid he
  have HSn := Lib.hid hsn
  clear ht ha hb hby hsl hnum he hsn
  unfold TaleS.vs taleV
  by_cases hm : x.bs.length + x.st.sl.length ≤ 30000
  · have hmI : ¬ (30000 : Int) < (x.bs.length : Int) + (x.st.sl.length : Int) := by omega
    go_enter Tryz.func13, Tryz.ntmps13
    go_wp2_with fail
    obtain ⟨w1, hw1⟩ : ∃ w1, w1 = w.alloc (Obj.cells (x.vs (.slice A x.bs.length c) (.slice A' x.st.sl.length c')) 47) := ⟨_, rfl⟩
    have K1 := Lib.hid (show Blk w1 w.heap.size 47 (x.vs (.slice A x.bs.length c) (.slice A' x.st.sl.length c')) by rw [hw1]; exact Blk.made _ _ _)
    have L1 := Lib.hid (show Below w.heap.size w w1 by rw [hw1]; exact (Below.refl _ _).alloc (Nat.le_refl _) _)
    unfold TaleS.vs taleV at hw1 K1
    rw [← hw1]
    clear hw1
    refine (lent_tale x.e x.sn x.bs A A' x.bs.length c x.st.sl.length c' x.st.v0 x.st.v1 x.st.v2 x.st.v3 x.st.v4 x.st.v5 x.st.v6 x.st.v7 x.st.v8 x.st.sl w1 (HA.out.below L1.out) (HB.out.below L1.out) (by omega) (by omega)).mono ?_
    rintro ev w2 ⟨g, d, g', d', rfl, hd, hd', ho, ho', hb2⟩
    have L2 := Lib.hid (below_chain L1.out hb2)
    have K2 := Lib.hid (K1.out.below hb2 K1.out.lt)
    have O2 := Lib.hid (own_base8 ho L1.out.size)
    have O2' := Lib.hid (own_base8 ho' L1.out.size)
    clear ho ho' hb2 K1 L1
    unfold taleV
    go_wp2_with fail
    obtain ⟨w3, hw3⟩ : ∃ w3, w3 = w2.alloc (Obj.cells (x.vs (.slice (some ⟨g, 0, none⟩) x.bs.length d) (.slice (some ⟨g', 0, none⟩) x.st.sl.length d')) 47) := ⟨_, rfl⟩
    have B3 := Lib.hid (show Below w2.heap.size w2 w3 by rw [hw3]; exact (Below.refl _ _).alloc (Nat.le_refl _) _)
    have J3 := Lib.hid (show Blk w3 w2.heap.size 47 (x.vs (.slice (some ⟨g, 0, none⟩) x.bs.length d) (.slice (some ⟨g', 0, none⟩) x.st.sl.length d')) by rw [hw3]; exact Blk.made _ _ _)
    have L3 := Lib.hid (below_chain L2.out B3.out)
    have K3 := Lib.hid (K2.out.below B3.out K2.out.lt)
    have O3 := Lib.hid (own_lo8 O2.out B3.out)
    have O3' := Lib.hid (own_lo8 O2'.out B3.out)
    unfold TaleS.vs taleV at hw3 J3
    rw [← hw3]
    clear hw3 K2 L2 O2 O2' B3
    refine (tell_any x.e x.sn x.bs (some ⟨g, 0, none⟩) (some ⟨g', 0, none⟩) x.bs.length d x.st.sl.length d' x.st.v0 x.st.v1 x.st.v2 x.st.v3 x.st.v4 x.st.v5 x.st.v6 x.st.v7 x.st.v8 x.st.sl w3 (rd_lent (RdI.of_own O3.out) rfl) (rd_lent (RdI.of_own O3'.out) rfl) (HT.out.below L3.out) HBy.out HSl.out HE.out HSn.out HNum.out (by omega) (by omega)).mono ?_
    rintro ev w4 ⟨rfl, hb4⟩
    obtain ⟨S, hS⟩ : ∃ S : ByteArray, S = ⟨(tellL x.e x.sn [x.st.v0, x.st.v1, x.st.v2, x.st.v3, x.st.v4, x.st.v5, x.st.v6, x.st.v7, x.st.v8] x.st.sl x.bs).toArray⟩ := ⟨_, rfl⟩
    rw [← hS]
    have HS := Lib.hid hS
    have L4 := Lib.hid (below_chain L3.out hb4)
    have K4 := Lib.hid (K3.out.below hb4 K3.out.lt)
    have J4 := Lib.hid (J3.out.below hb4 J3.out.lt)
    have O4 := Lib.hid (own_lo8 O3.out hb4)
    have O4' := Lib.hid (own_lo8 O3'.out hb4)
    clear hb4 hS L3 K3 J3 O3 O3'
    have p0 := K4.out.cell (i := 0) rfl
    have p1 := K4.out.cell (i := 1) rfl
    have p2 := K4.out.cell (i := 2) rfl
    have p3 := K4.out.cell (i := 3) rfl
    have p4 := K4.out.cell (i := 4) rfl
    have p5 := K4.out.cell (i := 5) rfl
    have p6 := K4.out.cell (i := 6) rfl
    have p7 := K4.out.cell (i := 7) rfl
    have p8 := K4.out.cell (i := 8) rfl
    have p9 := K4.out.cell (i := 9) rfl
    have p10 := K4.out.cell (i := 10) rfl
    have p11 := K4.out.cell (i := 11) rfl
    have p12 := K4.out.cell (i := 12) rfl
    go_wp2_with fail
    refine (ref_tell x.e x.sn x.bs A A' x.bs.length c x.st.sl.length c' x.st.v0 x.st.v1 x.st.v2 x.st.v3 x.st.v4 x.st.v5 x.st.v6 x.st.v7 x.st.v8 x.st.sl w4 (HA.out.below L4.out) (HB.out.below L4.out) (HT.out.below L4.out) HBy.out HSl.out HE.out HSn.out HNum.out (by omega) (by omega)).mono ?_
    rintro ev w5 ⟨rfl, hb5⟩
    rw [← HS.out]
    have L5 := Lib.hid (below_chain L4.out hb5)
    have K5 := Lib.hid (K4.out.below hb5 K4.out.lt)
    have J5 := Lib.hid (J4.out.below hb5 J4.out.lt)
    have O5 := Lib.hid (own_lo8 O4.out hb5)
    have O5' := Lib.hid (own_lo8 O4'.out hb5)
    clear hb5 L4 K4 J4 O4 O4' p0 p1 p2 p3 p4 p5 p6 p7 p8 p9 p10 p11 p12
    have p0 := K5.out.cell (i := 0) rfl
    have p1 := K5.out.cell (i := 1) rfl
    have p2 := K5.out.cell (i := 2) rfl
    have p3 := K5.out.cell (i := 3) rfl
    have p4 := K5.out.cell (i := 4) rfl
    have p5 := K5.out.cell (i := 5) rfl
    have p6 := K5.out.cell (i := 6) rfl
    have p7 := K5.out.cell (i := 7) rfl
    have p8 := K5.out.cell (i := 8) rfl
    have p9 := K5.out.cell (i := 9) rfl
    have p10 := K5.out.cell (i := 10) rfl
    have p11 := K5.out.cell (i := 11) rfl
    have p12 := K5.out.cell (i := 12) rfl
    have q0 := J5.out.cell (i := 0) rfl
    have q1 := J5.out.cell (i := 1) rfl
    have q2 := J5.out.cell (i := 2) rfl
    have q3 := J5.out.cell (i := 3) rfl
    have q4 := J5.out.cell (i := 4) rfl
    have q5 := J5.out.cell (i := 5) rfl
    have q6 := J5.out.cell (i := 6) rfl
    have q7 := J5.out.cell (i := 7) rfl
    have q8 := J5.out.cell (i := 8) rfl
    have q9 := J5.out.cell (i := 9) rfl
    have q10 := J5.out.cell (i := 10) rfl
    have q11 := J5.out.cell (i := 11) rfl
    have q12 := J5.out.cell (i := 12) rfl
    go_wp2_with fail
    refine (kept_tale x _ g d g' d' w.heap.size w5 O5.out O5'.out hd hd' ⟨A, c, A', c', rfl, HA.out.below L5.out, HB.out.below L5.out⟩ (by omega) (by omega)).mono ?_
    rintro ev w6 ⟨rfl, hb6⟩
    have L6 := Lib.hid (below_chain L5.out hb6)
    clear hb6 L5 K5 J5 O5 O5' p0 p1 p2 p3 p4 p5 p6 p7 p8 p9 p10 p11 p12 q0 q1 q2 q3 q4 q5 q6 q7 q8 q9 q10 q11 q12
    go_wp2_with fail
    refine (awake_any w6 (HT.out.below L6.out)).mono ?_
    rintro ev w7 ⟨rfl, hb7⟩
    have L7 := Lib.hid (below_chain L6.out hb7)
    clear hb7
    go_wp2
    go_ret
    exact ⟨rfl, L7.out⟩
  · have hmI : (30000 : Int) < (x.bs.length : Int) + (x.st.sl.length : Int) := by omega
    go_enter Tryz.func13, Tryz.ntmps13
    go_wp2_with fail
    obtain ⟨w1, hw1⟩ : ∃ w1, w1 = w.alloc (Obj.cells (x.vs (.slice A x.bs.length c) (.slice A' x.st.sl.length c')) 47) := ⟨_, rfl⟩
    have L1 := Lib.hid (show Below w.heap.size w w1 by rw [hw1]; exact (Below.refl _ _).alloc (Nat.le_refl _) _)
    unfold TaleS.vs taleV at hw1
    rw [← hw1]
    clear hw1
    refine (awake_any w1 (HT.out.below L1.out)).mono ?_
    rintro ev w7 ⟨rfl, hb7⟩
    have L7 := Lib.hid (below_chain L1.out hb7)
    clear hb7
    go_wp2
    go_ret
    exact ⟨rfl, L7.out⟩
end Go.Proofs.YtfehgpjnlkgekaaGreatDoor
