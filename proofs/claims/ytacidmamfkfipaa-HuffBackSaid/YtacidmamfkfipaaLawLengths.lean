/-
  The law HuffLengths, walked.
-/
import Derived.Test.YtacidmamfkfipaaLawCodes
import Derived.Test.YtacidmamfkfipaaRefLeast
import Derived.Test.YtacidmamfkfipaaStable
namespace Go.Proofs.Ytacidmamfkfipaa
open Go.RowKit
set_option linter.unusedVariables false

theorem ones_len_le (l : List Int) : (onesOf l).length ≤ l.length := by
  unfold onesOf
  exact Nat.le_trans (List.length_filterMap_le _ _) (by simp)
theorem lens_fair {l : List Int} {most : Int} (h : lengthsOk l most = true) : FairAt l (lengthsOf l most.toNat) l.length := by
  obtain ⟨h1, h2, h3, h4, h5⟩ := lenOk_parts h
  intro s hs
  have a := fair_at h4 hs
  have b := lens_each h hs
  omega
theorem wf_i64 {a : Int} (h : (Lit.int .i64 a).wf = true) : -9223372036854775808 ≤ a ∧ a ≤ 9223372036854775807 := by
  simp only [Lit.wf, Bool.and_eq_true, decide_eq_true_eq] at h
  have h1 : IntKind.i64.min = -9223372036854775808 := rfl
  have h2 : IntKind.i64.max = 9223372036854775807 := rfl
  omega
def LL1 (n : Nat) (w : World) (i : Value) (wr : World) : Prop := ∃ k : Nat, k ≤ n ∧ i = .int .i64 k ∧ Below w.heap.size w wr

set_option maxHeartbeats 4000000 in
theorem lengths_walk (l : List Int) (A : Option Addr) (n cap : Nat) (most : Int) (w : World) (hr : RdI .i64 w A n l) (hn : n ≤ 9223372036854775807) (hms : -9223372036854775808 ≤ most ∧ most ≤ 9223372036854775807) :
    Calls Try.prog 3 #[.slice A n cap, .int .i64 most] w fun e w' => e = .returned (.bool true) ∧ Below w.heap.size w w' := by
  have HR := Lib.hid hr
  have HL := Lib.hid hr.1
  clear hr
  by_cases hbig : 300 < n
  · have hb : (300 : Int) < n := by omega
    go_enter Try.func3, Try.ntmps3
    go_wp2_with (go_at_call 10; refine (awake4 _).mono ?_; rintro ev w1 ⟨rfl, hb1⟩; have HB1 := Lib.hid hb1; clear hb1)
    go_ret
    exact ⟨rfl, HB1.out⟩
  have hb : ¬ (300 : Int) < n := by omega
  go_enter Try.func3, Try.ntmps3
  go_wp2_with (first
    | (go_at_call 10; refine (awake4 _).mono ?_; rintro ev w1 ⟨rfl, hb1⟩; have HB1 := Lib.hid hb1; clear hb1)
    | (go_at_call 11; refine (lent_ints l A n cap w1 (HR.out.below HB1.out) (by omega)).mono ?_; rintro ev w2 ⟨g2, c2, rfl, hc2, ho2, hb2⟩; have HB2 := Lib.hid (below_chain HB1.out hb2); have HC2 := Lib.hid hc2; have O2 := Lib.hid ho2; clear ho2 hb2 hc2))
  refine (lengths_any 1000000 stableSaid_all (Nat.le_refl _) l (some ⟨g2, 0, none⟩) n c2 most w2 (lent_rd HL.out O2.out) (by omega) hms (.inl (by have := ones_len_le l; have := HL.out; omega))).mono ?_
  rintro ev w3 hp3
  rcases hp3 with (⟨hok, rfl, hb3⟩ | ⟨hok, A3, c3, rfl, ho3, hb3⟩)
  · have HB3 := Lib.hid (below_chain HB2.out hb3)
    have O3 := Lib.hid (own_below O2.out hb3)
    have HOk := Lib.hid hok
    clear hok hb3 O2
    go_wp2_with (first
      | (go_at_call 13; refine (kept_ints l A g2 n c2 cap w1.heap.size w3 (HR.out.below HB3.out) O3.out HC2.out (by omega)).mono ?_; rintro ev w4 ⟨rfl, hb4⟩; have HB4 := Lib.hid (below_chain HB3.out hb4); clear hb4)
      | (go_at_call 14; refine (asked_any l A n cap most w4 (HR.out.below HB4.out) (by omega) hms).mono ?_; rintro ev w5 ⟨rfl, rfl⟩; rw [HOk.out]))
    go_ret
    exact ⟨rfl, HB4.out⟩
  · have HB3 := Lib.hid (below_chain HB2.out hb3)
    have O3 := Lib.hid (own_below O2.out hb3)
    have Z3 := Lib.hid ho3
    have HOk := Lib.hid hok
    have HF := Lib.hid (lens_fair hok)
    have HC := Lib.hid (lens_cost hok)
    have HM := Lib.hid (lens_makes hok)
    have HE : Hid (∀ s, s < n → _) := fun s hs => lens_each hok (s := s) (by have := HL.out; omega)
    obtain ⟨hn1, hm1, hm2, _, _⟩ := lenOk_parts hok
    rw [HL.out] at hn1 HF
    clear hok hb3 O2 ho3
    go_wp2_with (first
      | (go_at_call 13; refine (kept_ints l A g2 n c2 cap w1.heap.size w3 (HR.out.below HB3.out) O3.out HC2.out (by omega)).mono ?_; rintro ev w4 ⟨rfl, hb4⟩; have HB4 := Lib.hid (below_chain HB3.out hb4); have Z4 := Lib.hid (RdI.of_own (own_below Z3.out hb4)); clear hb4)
      | (go_at_call 14; refine (asked_any l A n cap most w4 (HR.out.below HB4.out) (by omega) hms).mono ?_; rintro ev w5 ⟨rfl, rfl⟩; rw [HOk.out])
      | (go_at_call 15; refine (makes_any (lengthsOf l most.toNat) A3 n c3 w4 Z4.out (by omega)).mono ?_; rintro ev w5 ⟨rfl, rfl⟩; rw [HM.out]))
    go_loopw [8] (LL1 n w4) (fun i _ => n - (intOf i).toNat)
    case atStart => exact ⟨0, by omega, rfl, Below.refl _ _⟩
    case round =>
      obtain ⟨k, hk, rfl, hbel⟩ := hrel
      have HBel := Lib.hid hbel
      clear hbel
      by_cases hlt : k < n
      · have hltI : (k : Int) < n := by omega
        have hbw := Lib.hid (below_chain HB4.out HBel.out)
        obtain ⟨b, off, rfl, hblt⟩ := rd_some HR.out (by omega)
        obtain ⟨b', off', rfl, hblt'⟩ := rd_some Z4.out (by omega)
        have q1 := rd_cell HR.out hbw.out hlt
        have q2 := rd_cell Z4.out HBel.out hlt
        have he := HE.out k hlt
        generalize l.getD k 0 = x at *
        generalize (lengthsOf l most.toNat).getD k 0 = y at *
        obtain ⟨he1, he2, he3⟩ := he
        have HE3 := Lib.hid he3
        clear he3
        have d0 : decide (most < y) = false := by simp; omega
        by_cases hx0 : x = 0
        · have hy0 := HE3.out.2 hx0
          subst hx0
          subst hy0
          go_wp2
          refine wp_region_qs (fun _ w' => w'.cell? ⟨b, off + k, none⟩ = some (.int .i64 0) ∧ w'.cell? ⟨b', off' + k, none⟩ = some (.int .i64 0)) [(0, some 0), (1, some 0), (2, some 0), (3, some 0), (4, some 0), (5, some 0), (6, some 0), (7, some 0), (8, some 0), (9, some 0), (10, some 0), (11, some 0), (12, some 0), (13, some 0), (14, some 0), (15, some 0), (16, some 0), (17, some 0), (18, some 0)] (by kernel_rfl) (by kernel_rfl) (by kernel_rfl) (by kernel_rfl) (by kernel_rfl) (fun _ _ _ _ _ h => h) ⟨q1, q2⟩ ?_
          simp only [List.map_cons, List.map_nil, List.getD_cons_succ, List.getD_cons_zero]
          (repeat (first | (refine qs_now (v := ?_) (by rfl) ?_ ?_; rotate_left 1; (· (intro w' hS; go_simp; (try (simp only [↓IntWalk.iteOmega]; go_simp)); (try simp (disch := omega) only [IntWalk.i64_in]); try with_reducible rfl)); simp only [Act.put, List.setIfInBounds_toArray, List.set_cons_zero, List.set_cons_succ]) | (refine qs_run (v := ?_) (by rfl) ?_ ?_; rotate_left 1; (· (intro j w' hS; go_simp; (try (simp only [↓IntWalk.iteOmega]; go_simp)); (try simp (disch := omega) only [IntWalk.i64_in]); try with_reducible rfl)); simp only [Act.put, List.setIfInBounds_toArray, List.set_cons_zero, List.set_cons_succ]) | (refine qs_skip (by rfl) ?_; simp only [Act.put, List.setIfInBounds_toArray, List.set_cons_zero, List.set_cons_succ])))
          refine qs_nil ?_
          go_wp2
          go_roundw
          case rel => exact ⟨k + 1, by omega, by go_num, HBel.out.drew⟩
          case measure => simp [intOf]; omega
        · have hy0 : ¬ y = 0 := fun h => hx0 (HE3.out.1 h)
          have dx : (x == 0) = false := by simpa using hx0
          have dy : (y == 0) = false := by simpa using hy0
          go_wp2
          refine wp_region_qs (fun _ w' => w'.cell? ⟨b, off + k, none⟩ = some (.int .i64 x) ∧ w'.cell? ⟨b', off' + k, none⟩ = some (.int .i64 y)) [(0, some 0), (1, some 0), (2, some 0), (3, some 0), (4, some 0), (5, some 0), (6, some 0), (7, some 0), (8, some 0), (9, some 0), (10, some 0), (11, some 0), (12, some 0), (13, some 0), (14, some 0), (15, some 0), (16, some 0), (17, some 0), (18, some 0)] (by kernel_rfl) (by kernel_rfl) (by kernel_rfl) (by kernel_rfl) (by kernel_rfl) (fun _ _ _ _ _ h => h) ⟨q1, q2⟩ ?_
          simp only [List.map_cons, List.map_nil, List.getD_cons_succ, List.getD_cons_zero]
          (repeat (first | (refine qs_now (v := ?_) (by rfl) ?_ ?_; rotate_left 1; (· (intro w' hS; go_simp; (try (simp only [↓IntWalk.iteOmega]; go_simp)); (try simp (disch := omega) only [IntWalk.i64_in]); try with_reducible rfl)); simp only [Act.put, List.setIfInBounds_toArray, List.set_cons_zero, List.set_cons_succ]) | (refine qs_run (v := ?_) (by rfl) ?_ ?_; rotate_left 1; (· (intro j w' hS; go_simp; (try (simp only [↓IntWalk.iteOmega]; go_simp)); (try simp (disch := omega) only [IntWalk.i64_in]); try with_reducible rfl)); simp only [Act.put, List.setIfInBounds_toArray, List.set_cons_zero, List.set_cons_succ]) | (refine qs_skip (by rfl) ?_; simp only [Act.put, List.setIfInBounds_toArray, List.set_cons_zero, List.set_cons_succ])))
          refine qs_nil ?_
          go_wp2
          go_roundw
          case rel => exact ⟨k + 1, by omega, by go_num, HBel.out.drew⟩
          case measure => simp [intOf]; omega
      · obtain rfl : k = n := by omega
        have hbw := Lib.hid (below_chain HB4.out HBel.out)
        go_wp2_with (first
          | (go_at_call 16; refine (cost_any l (lengthsOf l most.toNat) A A3 k cap c3 wr (HR.out.below hbw.out) (Z4.out.below HBel.out) (by omega) HF.out).mono ?_; rintro ev w6 ⟨rfl, hb6⟩; have HB6 := Lib.hid (below_chain hbw.out hb6); clear hb6)
          | (go_at_call 17; refine (least_any l A k cap most w6 (HR.out.below HB6.out) HOk.out).mono ?_; rintro ev w7 ⟨rfl, hb7⟩; have HB7 := Lib.hid (below_chain HB6.out hb7); clear hb7; rw [HC.out]))
        go_ret
        exact ⟨by simp, HB7.out⟩
end Go.Proofs.Ytacidmamfkfipaa
