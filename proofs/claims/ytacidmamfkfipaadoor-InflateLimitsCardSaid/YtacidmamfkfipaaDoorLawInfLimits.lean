/-
  InflateLimits walked.
-/
import Derived.Test.YtacidmamfkfipaaDoorInfTop
namespace Go.Proofs.YtacidmamfkfipaaDoor
open Go.RowKit
set_option linter.unusedVariables false

theorem infOut_out {bs : List Int} {most : Int} (h : most < 0 ∨ 65536 < most) : infOut bs most = ([], 0, 2) := by unfold infOut; rw [if_pos h]
theorem lim_out {bs : List Int} {M : Int} (hM : 0 ≤ M ∧ M ≤ 65536) (he : (infOut bs M).2.2 = 0) :
    infOut bs ((infOut bs M).1.length : Int) = infOut bs M ∧ ∀ m : Int, 0 ≤ m → m < ((infOut bs M).1.length : Int) → infOut bs m = ([], 0, 3) := by
  have hlen := infOut_len bs M
  have key : ∀ m : Int, 0 ≤ m → m ≤ 65536 → infOut bs m = match inflateR (bitsOf bs) m.toNat with
    | .ok out p => (out, (((p + 7) / 8 : Nat) : Int), 0)
    | .bad b => ([], 0, errOf b) := fun m h0 h1 => by unfold infOut; rw [if_neg (by omega)]; rfl
  have k0 := key M hM.1 hM.2
  cases hR : inflateR (bitsOf bs) M.toNat with
  | ok out p =>
    rw [hR] at k0
    simp only at k0
    rw [k0] at hlen
    simp only at hlen
    obtain ⟨h1, h2⟩ := inflateR_lim hR
    rw [k0]
    refine ⟨?_, fun m hm0 hm1 => ?_⟩
    · rw [key _ (by omega) (by simp only; omega)]
      simp only [Int.toNat_natCast, h1]
    · simp only at hm1
      rw [key m hm0 (by omega), h2 m.toNat (by omega)]
      rfl
  | bad b =>
    rw [hR] at k0
    simp only at k0
    rw [k0] at he
    exact absurd he (errOf_ne b)
set_option maxHeartbeats 1600000 in
set_option maxRecDepth 100000 in
theorem infLimits_walk (bs : List Int) (A : Option Addr) (n cap : Nat) (less : Int) (w : World) (h : RdI .u8 w A n bs) (hB : Bytes bs) (hless : (Lit.int .i64 less).wf = true) (ht : TabsOk w) :
    Calls Tryd.prog 5 #[.slice A n cap, .int .i64 less] w fun e w' => e = .returned (.bool true) ∧ Below w.heap.size w w' := by
  have HR := Lib.hid h
  have hL := h.1
  have HBy := Lib.hid hB
  have TB := Lib.hid ht
  have AW := Lib.hid (awake_any w ht)
  have hli : -9223372036854775808 ≤ less ∧ less ≤ 9223372036854775807 := bounds_i64 hless
  clear h hB ht hless
  by_cases hn : 1500 < n
  · have hnI : (1500 : Int) < n := by omega
    go_enter Tryd.func5, Tryd.ntmps5
    go_wp2_with (refine AW.out.mono ?_; rintro ev w1 ⟨rfl, hb1⟩; have B1 := Lib.hid hb1; clear hb1)
    go_ret
    exact ⟨rfl, B1.out⟩
  · have hnI : ¬ (1500 : Int) < n := by omega
    have hn1 : n ≤ 1500 := by omega
    clear hn
    obtain ⟨q, hq⟩ : ∃ q, q = pickI less 9 := ⟨_, rfl⟩
    have hq9 : 0 ≤ q ∧ q < 9 := by rw [hq]; exact pick_bd _ _ (by omega)
    have PK := Lib.hid (fun w => pick_any less 9 w hli (by omega))
    rw [← hq] at PK
    clear hq
    go_enter Tryd.func5, Tryd.ntmps5
    go_wp2_with (first
      | (go_at_call 8; refine AW.out.mono ?_; rintro ev w1 ⟨rfl, hb1⟩; have B1 := Lib.hid hb1; clear hb1)
      | (go_at_call 15; refine (PK.out _).mono ?_; rintro ev w2 ⟨rfl, rfl⟩))
    refine (inflate_any bs A n cap (-1 - q) w1 (HR.out.below B1.out) HBy.out (by omega) (TB.out.below B1.out)).mono ?_
    rintro ev w2 hp2
    obtain ⟨A2, c2, rfl, o2, -, hb2⟩ := hp2.out
    rw [infOut_out (.inl (by omega))] at *
    have B2 := Lib.hid (below_chain B1.out hb2)
    clear hp2 o2 hb2
    go_wp2_with (first
      | (go_at_call 15; refine (PK.out _).mono ?_; rintro ev w2 ⟨rfl, rfl⟩))
    refine (inflate_any bs A n cap (65537 + q) w2 (HR.out.below B2.out) HBy.out (by omega) (TB.out.below B2.out)).mono ?_
    rintro ev w3 hp3
    obtain ⟨A3, c3, rfl, o3, -, hb3⟩ := hp3.out
    rw [infOut_out (.inr (by omega))] at *
    have B3 := Lib.hid (below_chain B2.out hb3)
    clear hp3 o3 hb3
    go_wp2_with fail
    refine (rinflate_any bs A n cap 6000 w3 (HR.out.below B3.out) HBy.out (by omega)).mono ?_
    rintro ev w4 hp4
    obtain ⟨A4, c4, rfl, o4, -, hb4⟩ := hp4.out
    have O4 := Lib.hid o4
    have B4 := Lib.hid (below_chain B3.out hb4)
    clear hp4 o4 hb4
    have hlen := infOut_len bs 6000
    have LO := lim_out (bs := bs) (M := 6000) (by omega)
    generalize infOut bs 6000 = X at *
    obtain ⟨out, N, e⟩ := X
    simp only at *
    by_cases he : e = 0
    · subst he
      obtain ⟨l1, l2⟩ := LO rfl
      have L2 := Lib.hid l2
      clear LO l2
      go_wp2_with fail
      refine (inflate_any bs A n cap _ w4 (HR.out.below B4.out) HBy.out (by omega) (TB.out.below B4.out)).mono ?_
      rintro ev w5 hp5
      obtain ⟨A5, c5, rfl, o5, -, hb5⟩ := hp5.out
      rw [l1] at *
      simp only at *
      have O5 := Lib.hid o5
      have N5 := Lib.hid hb5
      have B5 := Lib.hid (below_chain B4.out hb5)
      clear hp5 o5 hb5 l1
      have dN : (N != N) = false := by simp
      go_wp2_with fail
      refine (same_bytes out out A4 A5 out.length out.length c4 c5 w5 ((RdI.of_own O4.out).below N5.out) (RdI.of_own O5.out) (by omega) (by omega)).mono ?_
      rintro ev w6 ⟨rfl, hb6⟩
      have B6 := Lib.hid (below_chain B5.out hb6)
      clear hb6
      have ds : decide (out = out) = true := by simp
      by_cases h0 : out.length = 0
      · have d0 : ((out.length : Int) == 0) = true := by rw [h0]; rfl
        go_wp2
        go_ret
        exact ⟨rfl, B6.out⟩
      · have d0 : ((out.length : Int) == 0) = false := by simpa using h0
        obtain ⟨m, hm⟩ : ∃ m, m = pickI less (out.length : Int) := ⟨_, rfl⟩
        have hmb : 0 ≤ m ∧ m < (out.length : Int) := by rw [hm]; exact pick_bd _ _ (by omega)
        have PM := Lib.hid (fun w => pick_any less (out.length : Int) w hli (by omega))
        rw [← hm] at PM
        clear hm
        go_wp2_with (first
          | (go_at_call 15; refine (PM.out _).mono ?_; rintro ev w2 ⟨rfl, rfl⟩))
        refine (inflate_any bs A n cap m w6 (HR.out.below B6.out) HBy.out (by omega) (TB.out.below B6.out)).mono ?_
        rintro ev w7 hp7
        obtain ⟨A7, c7, rfl, o7, -, hb7⟩ := hp7.out
        rw [L2.out m hmb.1 hmb.2] at *
        have B7 := Lib.hid (below_chain B6.out hb7)
        clear hp7 o7 hb7
        go_wp2
        go_ret
        exact ⟨rfl, B7.out⟩
    · clear LO
      have de : (e != 0) = true := by simpa using he
      go_wp2
      go_ret
      exact ⟨rfl, B4.out⟩
end Go.Proofs.YtacidmamfkfipaaDoor
