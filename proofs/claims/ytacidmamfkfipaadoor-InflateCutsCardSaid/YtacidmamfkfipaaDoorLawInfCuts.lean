/-
  InflateCuts walked.
-/
import Derived.Test.YtacidmamfkfipaaDoorInfTop
namespace Go.Proofs.YtacidmamfkfipaaDoor
open Go.RowKit
set_option linter.unusedVariables false

theorem byte_wf6 {z : Int} (h : (Lit.int .u8 z).wf = true) : 0 ≤ z ∧ z < 256 := by
  simp only [Lit.wf, decide_eq_true_eq, Bool.and_eq_true] at h
  simp [IntKind.min, IntKind.max, IntKind.bits, IntKind.signed] at h
  omega
theorem bytes_set {l : List Int} (h : Bytes l) (i : Nat) {z : Int} (hz : 0 ≤ z ∧ z < 256) : Bytes (l.set i z) := fun y hy => by
  rcases List.mem_or_eq_of_mem_set hy with hy | rfl
  · exact h y hy
  · exact hz
theorem bytes_take {l : List Int} (h : Bytes l) (k : Nat) : Bytes (l.take k) := fun y hy => h y (List.mem_of_mem_take hy)
theorem toNat_nat (q : Nat) : ((q : Int)).toNat = q := rfl
def CuI (n : Nat) (w : World) (k0 : Nat) (iv : Value) (wr : World) : Prop := ∃ k : Nat, k + k0 = n + 1 ∧ iv = .int .i64 k ∧ Below w.heap.size w wr
set_option maxHeartbeats 1600000 in
set_option maxRecDepth 100000 in
theorem infCuts_walk (bs : List Int) (A : Option Addr) (n cap : Nat) (at' by' : Int) (w : World) (h : RdI .u8 w A n bs) (hB : Bytes bs) (hat : (Lit.int .i64 at').wf = true) (hby : (Lit.int .u8 by').wf = true) (ht : TabsOk w) :
    Calls Tryd.prog 4 #[.slice A n cap, .int .i64 at', .int .u8 by'] w fun e w' => e = .returned (.bool true) ∧ Below w.heap.size w w' := by
  have HR := Lib.hid h
  have hL := h.1
  have HBy := Lib.hid hB
  have TB := Lib.hid ht
  have AW := Lib.hid (awake_any w ht)
  have hati : -9223372036854775808 ≤ at' ∧ at' ≤ 9223372036854775807 := bounds_i64 hat
  clear h hB ht hat
  by_cases hn : 120 < n
  · have hnI : (120 : Int) < n := by omega
    go_enter Tryd.func4, Tryd.ntmps4
    go_wp2_with (refine AW.out.mono ?_; rintro ev w1 ⟨rfl, hb1⟩; have B1 := Lib.hid hb1; clear hb1)
    go_ret
    exact ⟨rfl, B1.out⟩
  · have hnI : ¬ (120 : Int) < n := by omega
    go_enter Tryd.func4, Tryd.ntmps4
    go_wp2_with (refine AW.out.mono ?_; rintro ev w1 ⟨rfl, hb1⟩; have B1 := Lib.hid hb1; clear hb1)
    refine (copy_bytes bs A n cap w1 (HR.out.below B1.out) (by omega)).mono ?_
    rintro ev w2 ⟨A2, c2, rfl, ho, hb2⟩
    obtain ⟨_, _, hv2, hc2⟩ := own_slice ho
    injection hv2 with hv2a _ hv2
    subst hv2 hv2a
    have HC := Lib.hid hc2
    have BW := Lib.hid (below_chain B1.out hb2)
    rcases Nat.eq_zero_or_pos n with hn0 | hn0
    · have hn0I : ¬ (0 : Int) < n := by omega
      have dn0 : decide ((0 : Int) < n) = false := by simpa using hn0I
      have dn0' : decide (0 < n) = false := by simp; omega
      clear hn0
      obtain ⟨xs, hxs⟩ : ∃ xs, xs = bs := ⟨_, rfl⟩
      have RX := Lib.hid (show RdI .u8 w2 A2 n xs by rw [hxs]; exact RdI.of_own ho)
      have HXB := Lib.hid (show Bytes xs by rw [hxs]; exact HBy.out)
      clear hxs ho hb2
      go_wp2
      go_loopg [8] (n + 1) (CuI n w2)
      case atStart => exact ⟨0, by omega, rfl, Below.refl _ _⟩
      case round =>
        obtain ⟨k, hk, rfl, hb⟩ := hrel
        have B := Lib.hid hb
        have BT := Lib.hid (below_chain BW.out hb)
        clear hb
        by_cases hkn : k ≤ n
        · have hknI : (k : Int) ≤ n := by omega
          have hkc : (k : Int) ≤ (c2:Int) := by have := HC.out; omega
          have HRk := Lib.hid (rd_take (RX.out.below B.out) k hkn)
          have HBk := Lib.hid (bytes_take HXB.out k)
          go_wp2_with fail
          refine (inflate_any (xs.take k) _ k _ 3000 wr HRk.out HBk.out (by omega) (TB.out.below BT.out)).mono ?_
          rintro ev w3 hp3
          obtain ⟨A3, c3, rfl, o3, -, hb3⟩ := hp3.out
          have O3 := Lib.hid o3
          have N3 := Lib.hid hb3
          clear hp3 o3 hb3
          go_wp2_with fail
          refine (rinflate_any (xs.take k) _ k _ 3000 w3 (HRk.out.below N3.out) HBk.out (by omega)).mono ?_
          rintro ev w4 hp4
          obtain ⟨A4, c4, rfl, o4, -, hb4⟩ := hp4.out
          have O4 := Lib.hid o4
          have N4 := Lib.hid hb4
          clear hp4 o4 hb4
          have hlen := infOut_len (xs.take k) 3000
          generalize infOut (xs.take k) 3000 = X at *
          obtain ⟨out, N, e⟩ := X
          simp only at *
          have de : (e != e) = false := by simp
          have dN : (N != N) = false := by simp
          go_wp2_with fail
          refine (same_bytes out out A3 A4 out.length out.length c3 c4 w4 ((RdI.of_own O3.out).below N4.out) (RdI.of_own O4.out) (by omega) (by omega)).mono ?_
          rintro ev w5 ⟨rfl, hb5⟩
          have B5 := Lib.hid (below_chain (below_chain (below_chain B.out N3.out) N4.out) hb5)
          clear hb5
          have ds : decide (out = out) = true := by simp
          go_wp2
          go_roundg (gk - 1)
          case measure => omega
          case rel => exact ⟨k + 1, by omega, by go_num, B5.out⟩
        · obtain rfl : k = n + 1 := by omega
          go_wp2
          go_ret
          exact ⟨rfl, BT.out⟩
    · have hn0I : (0 : Int) < n := by omega
      have dn0' : decide (0 < n) = true := by simpa using hn0
      obtain ⟨q, hq⟩ : ∃ q, q = pickI at' (n : Int) := ⟨_, rfl⟩
      have hqb : 0 ≤ q ∧ q < (n : Int) := by rw [hq]; exact pick_bd _ _ (by omega)
      have PK := Lib.hid (fun w => pick_any at' (n : Int) w hati (by omega))
      rw [← hq] at PK
      clear hq
      obtain ⟨q, rfl⟩ : ∃ z : Nat, q = (z : Int) := ⟨q.toNat, by omega⟩
      obtain ⟨g, cc, hv, _, hlt2⟩ := ho.form hn0
      injection hv with hv hv2 hv3
      subst hv hv3
      have OW := Lib.hid ho
      have hq1 : q < n := by omega
      have q1 := ho.cellAt q (by omega)
      have q2 := ho.frozenAt q
      rw [List.getElem?_map, List.getElem?_eq_getElem (by omega)] at q1
      simp only [Option.map_some] at q1
      have hxb := HBy.out (bs[q]'(by omega)) (List.getElem_mem _)
      generalize bs[q]'(by omega) = x at *
      clear ho
      go_wp2_with (first
        | (go_at_call 15; refine (PK.out _).mono ?_; rintro ev w2 ⟨rfl, rfl⟩))
      have hst := OW.out.stored q (.int .u8 (bits .xor .u8 x by'))
      obtain ⟨w3, hw3⟩ : ∃ w3, w3 = w2.setCell ⟨g, q, none⟩ (.int .u8 (bits .xor .u8 x by')) := ⟨_, rfl⟩
      obtain ⟨hs1, hs2⟩ := hst
      rw [← hw3] at hs1 hs2 ⊢
      rw [← List.map_set] at hs1
      obtain ⟨xs, hxs⟩ : ∃ xs, xs = bs.set q (bits .xor .u8 x by') := ⟨_, rfl⟩
      have RX := Lib.hid (show RdI .u8 w3 (some ⟨g, 0, none⟩) n xs by rw [hxs]; exact RdI.of_own hs1)
      have HXB := Lib.hid (show Bytes xs by rw [hxs]; exact bytes_set HBy.out q (byte_wf6 (wf_bits _ _ _ _)))
      have BW3 := Lib.hid ((BW.out).grown hs2 (by have := BW.out.size; omega) (fun k hk => by have := (OW.out.lt k hk).1; have := B1.out.size; omega))
      clear BW hs1 hs2 hw3 hxs q1 q2 OW
      have BW := BW3
      clear BW3
      go_loopg [8] (n + 1) (CuI n w3)
      case atStart => exact ⟨0, by omega, rfl, Below.refl _ _⟩
      case round =>
        obtain ⟨k, hk, rfl, hb⟩ := hrel
        have B := Lib.hid hb
        have BT := Lib.hid (below_chain BW.out hb)
        clear hb
        by_cases hkn : k ≤ n
        · have hknI : (k : Int) ≤ n := by omega
          have hkc : (k : Int) ≤ (c2:Int) := by have := HC.out; omega
          have HRk := Lib.hid (rd_take (RX.out.below B.out) k hkn)
          have HBk := Lib.hid (bytes_take HXB.out k)
          go_wp2_with fail
          refine (inflate_any (xs.take k) _ k _ 3000 wr HRk.out HBk.out (by omega) (TB.out.below BT.out)).mono ?_
          rintro ev w3 hp3
          obtain ⟨A3, c3, rfl, o3, -, hb3⟩ := hp3.out
          have O3 := Lib.hid o3
          have N3 := Lib.hid hb3
          clear hp3 o3 hb3
          go_wp2_with fail
          refine (rinflate_any (xs.take k) _ k _ 3000 w3 (HRk.out.below N3.out) HBk.out (by omega)).mono ?_
          rintro ev w4 hp4
          obtain ⟨A4, c4, rfl, o4, -, hb4⟩ := hp4.out
          have O4 := Lib.hid o4
          have N4 := Lib.hid hb4
          clear hp4 o4 hb4
          have hlen := infOut_len (xs.take k) 3000
          generalize infOut (xs.take k) 3000 = X at *
          obtain ⟨out, N, e⟩ := X
          simp only at *
          have de : (e != e) = false := by simp
          have dN : (N != N) = false := by simp
          go_wp2_with fail
          refine (same_bytes out out A3 A4 out.length out.length c3 c4 w4 ((RdI.of_own O3.out).below N4.out) (RdI.of_own O4.out) (by omega) (by omega)).mono ?_
          rintro ev w5 ⟨rfl, hb5⟩
          have B5 := Lib.hid (below_chain (below_chain (below_chain B.out N3.out) N4.out) hb5)
          clear hb5
          have ds : decide (out = out) = true := by simp
          go_wp2
          go_roundg (gk - 1)
          case measure => omega
          case rel => exact ⟨k + 1, by omega, by go_num, B5.out⟩
        · obtain rfl : k = n + 1 := by omega
          go_wp2
          go_ret
          exact ⟨rfl, BT.out⟩
end Go.Proofs.YtacidmamfkfipaaDoor
