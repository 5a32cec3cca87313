/-
  The law HuffTurned, walked.
-/
import Derived.Test.YtacidmamfkfipaaLawLengths
import Derived.Test.YtacidmamfkfipaaTurnPlain
namespace Go.Proofs.Ytacidmamfkfipaa
open Go.RowKit
set_option linter.unusedVariables false

set_option maxHeartbeats 800000 in
theorem pick_any (x n : Int) (w : World) (hx : -9223372036854775808 ≤ x ∧ x ≤ 9223372036854775807) (hn : -9223372036854775808 ≤ n ∧ n ≤ 9223372036854775807) :
    Calls Try.prog 19 #[.int .i64 x, .int .i64 n] w fun e w' => e = .returned (.int .i64 (pickOf x n)) ∧ w = w' := by
  by_cases h : n < 1
  · have d : decide (n < 1) = true := by simpa using h
    have HP := Lib.hid (show pickOf x n = 0 by unfold pickOf; rw [if_pos h])
    go_enter Try.func19, Try.ntmps19
    go_wp2
    go_ret
    exact ⟨by rw [HP.out]; rfl, rfl⟩
  have d : decide (n < 1) = false := by simpa using h
  have h1 := Int.tmod_lt_of_pos x (by omega : 0 < n)
  have h2 : -n < x.tmod n := by
    have := Int.tmod_lt_of_pos (-x) (by omega : 0 < n)
    rw [Int.neg_tmod] at this
    omega
  have HP := Lib.hid (show pickOf x n = if x.tmod n < 0 then x.tmod n + n else x.tmod n by unfold pickOf; rw [if_neg h])
  have hn0 : ¬ n = 0 := by omega
  have hw1 : IntKind.i64.wrap (x.tmod n) = x.tmod n := IntWalk.i64_in _ (by omega)
  have hw2 : x.tmod n < 0 → wrap64 (x.tmod n + n) = x.tmod n + n := fun h => IntWalk.wrap64_in _ (by omega)
  have HW2 := Lib.hid hw2
  clear hw2
  by_cases hr : x.tmod n < 0
  · have dr : decide (x.tmod n < 0) = true := by simpa using hr
    rw [if_pos hr] at HP
    have hw3 := HW2.out hr
    go_enter Try.func19, Try.ntmps19
    go_wp2
    go_ret
    exact ⟨by rw [HP.out]; rfl, rfl⟩
  · have dr : decide (x.tmod n < 0) = false := by simpa using hr
    rw [if_neg hr] at HP
    go_enter Try.func19, Try.ntmps19
    go_wp2
    go_ret
    exact ⟨by rw [HP.out]; rfl, rfl⟩

theorem rd_take {k : IntKind} {w : World} {A : Option Addr} {n : Nat} {zs : List Int} (h : RdI k w A n zs) (p : Nat) (hp : p ≤ n) : RdI k w A p (zs.take p) := by
  refine ⟨by rw [List.length_take, h.1]; omega, fun hn => ?_⟩
  obtain ⟨b, off, rfl, hlt, hc⟩ := h.2 (by omega)
  refine ⟨b, off, rfl, hlt, fun j hj => ?_⟩
  rw [hc j (by omega)]
  simp [hj]
theorem rd_from {k : IntKind} {w : World} {b off n : Nat} {zs : List Int} (h : RdI k w (some ⟨b, off, none⟩) n zs) (p : Nat) (hp : p ≤ n) : RdI k w (some ⟨b, off + p, none⟩) (n - p) (zs.drop p) := by
  refine ⟨by rw [List.length_drop, h.1], fun hn => ?_⟩
  obtain ⟨b, off, e, hlt, hc⟩ := h.2 (by omega)
  injection e with e
  injection e with e1 e2
  subst e1
  subst e2
  refine ⟨_, _, rfl, hlt, fun j hj => ?_⟩
  rw [Nat.add_assoc, hc (p + j) (by omega)]
  simp
theorem own_empty (W : World) (t : TypeId) : (W.alloc (.cells #[] t)).drew.ownsRow W.heap.size t 1 (.slice (some ⟨W.heap.size, 0, none⟩) 0 0) 0 [] :=
  ⟨rfl, .inr ⟨W.heap.size, 0, #[], rfl, Nat.le_refl _, (Blk.made W t #[]).drew, by simp, by unfold maxLen; simp, rfl, rfl⟩⟩
def TT1 (n : Nat) (w : World) (i : Value) (wr : World) : Prop := ∃ k : Nat, k ≤ n ∧ i = .int .i64 k ∧ Below w.heap.size w wr

set_option maxHeartbeats 4000000 in
set_option maxRecDepth 100000 in
theorem turned_walk (l : List Int) (A : Option Addr) (n cap : Nat) (most kk : Int) (w : World) (hr : RdI .i64 w A n l) (hn : n ≤ cap) (hcap : cap ≤ 9223372036854775807) (hms : -9223372036854775808 ≤ most ∧ most ≤ 9223372036854775807) (hkk : -9223372036854775808 ≤ kk ∧ kk ≤ 9223372036854775807) :
    Calls Try.prog 5 #[.slice A n cap, .int .i64 most, .int .i64 kk] w fun e w' => e = .returned (.bool true) ∧ Below w.heap.size w w' := by
  have HR := Lib.hid hr
  have HL := Lib.hid hr.1
  clear hr
  by_cases hbig : 300 < n
  · have hb : decide ((300 : Int) < n) = true := by simp; omega
    go_enter Try.func5, Try.ntmps5
    go_wp2_with (go_at_call 10; refine (awake4 _).mono ?_; rintro ev w1 ⟨rfl, hb1⟩; have HB1 := Lib.hid hb1; clear hb1)
    go_ret
    exact ⟨rfl, HB1.out⟩
  have hb : decide ((300 : Int) < n) = false := by simp; omega
  by_cases h0 : n = 0
  · subst h0
    go_enter Try.func5, Try.ntmps5
    go_wp2_with (go_at_call 10; refine (awake4 _).mono ?_; rintro ev w1 ⟨rfl, hb1⟩; have HB1 := Lib.hid hb1; clear hb1)
    go_ret
    exact ⟨rfl, HB1.out⟩
  have hb0 : ((n : Int) == 0) = false := by simp; omega
  have hb0N : (n == 0) = false := by simpa using h0
  cases hok : lengthsOk l most with
  | false =>
    have HOk := Lib.hid hok
    clear hok
    go_enter Try.func5, Try.ntmps5
    go_wp2_with (first
      | (go_at_call 10; refine (awake4 _).mono ?_; rintro ev w1 ⟨rfl, hb1⟩; have HB1 := Lib.hid hb1; clear hb1)
      | (go_at_call 14; refine (asked_any l A n cap most w1 (HR.out.below HB1.out) (by omega) hms).mono ?_; rintro ev w5 ⟨rfl, rfl⟩; rw [HOk.out]))
    go_ret
    exact ⟨rfl, HB1.out⟩
  | true =>
    have HOk := Lib.hid hok
    clear hok
    have hpb := pick_bd kk n (by omega)
    obtain ⟨p, hp⟩ : ∃ p : Nat, pickOf kk n = p := ⟨(pickOf kk n).toNat, by omega⟩
    have HP := Lib.hid hp
    have hp1 : p < n := by omega
    clear hp hpb
    have HPe := Lib.hid (turn_perm l p)
    have HOk2 := Lib.hid (ok_perm HPe.out HOk.out)
    have HCo := Lib.hid (cost_perm HPe.out HOk.out)
    have HL2 := Lib.hid (show (l.drop p ++ l.take p).length = n by rw [← HPe.out.length_eq, HL.out])
    obtain ⟨b, off, rfl, hblt⟩ := rd_some HR.out (by omega)
    go_enter Try.func5, Try.ntmps5
    go_wp2_with (first
      | (go_at_call 10; refine (awake4 _).mono ?_; rintro ev w1 ⟨rfl, hb1⟩; have HB1 := Lib.hid hb1; clear hb1)
      | (go_at_call 14; refine (asked_any l _ n cap most w1 (HR.out.below HB1.out) (by omega) hms).mono ?_; rintro ev w5 ⟨rfl, rfl⟩; rw [HOk.out])
      | (go_at_call 19; refine (pick_any kk n w1 hkk (by omega)).mono ?_; rintro ev w5 ⟨rfl, rfl⟩; rw [HP.out]))
    refine wp_region_qs (fun _ _ => True) [(1, some 3), (2, some 3), (3, some 2), (5, some 3), (6, some 3), (7, some 2), (0, none), (4, none), (8, none), (9, some 3)] (by kernel_rfl) (by kernel_rfl) (by kernel_rfl) (by kernel_rfl) (by kernel_rfl) (fun _ _ _ _ _ h => h) trivial ?_
    simp only [List.map_cons, List.map_nil, List.getD_cons_succ, List.getD_cons_zero]
    (repeat (first | (refine qs_now (v := ?_) (by rfl) ?_ ?_; rotate_left 1; (· (intro w' hS; go_simp; (try (simp only [↓IntWalk.iteOmega]; go_simp)); (try simp (disch := omega) only [IntWalk.i64_in]); try with_reducible rfl)); simp only [Act.put, List.setIfInBounds_toArray, List.set_cons_zero, List.set_cons_succ]) | (refine qs_run (v := ?_) (by rfl) ?_ ?_; rotate_left 1; (· (intro j w' hS; go_simp; (try (simp only [↓IntWalk.iteOmega]; go_simp)); (try simp (disch := omega) only [IntWalk.i64_in]); try with_reducible rfl)); simp only [Act.put, List.setIfInBounds_toArray, List.set_cons_zero, List.set_cons_succ]) | (refine qs_skip (by rfl) ?_; simp only [Act.put, List.setIfInBounds_toArray, List.set_cons_zero, List.set_cons_succ])))
    refine qs_act ?_
    go_wp2
    obtain ⟨w2, hw2⟩ : ∃ w2, w2 = (w1.alloc (.cells #[] 3)).drew := ⟨_, rfl⟩
    rw [← hw2]
    have L2 := Lib.hid (show Below w1.heap.size w1 w2 by rw [hw2]; exact ((Below.refl _ _).alloc (Nat.le_refl _) _).drew)
    have O2 := Lib.hid (show w2.ownsRow w1.heap.size 3 1 (.slice (some ⟨w1.heap.size, 0, none⟩) 0 0) 0 [] by rw [hw2]; exact own_empty _ _)
    have B2 := Lib.hid (below_chain HB1.out L2.out)
    clear hw2
    refine ⟨trivial, ?_⟩
    (repeat (first | (refine qs_now (v := ?_) (by rfl) ?_ ?_; rotate_left 1; (· (intro w' hS; go_simp; (try (simp only [↓IntWalk.iteOmega]; go_simp)); (try simp (disch := omega) only [IntWalk.i64_in]); try with_reducible rfl)); simp only [Act.put, List.setIfInBounds_toArray, List.set_cons_zero, List.set_cons_succ]) | (refine qs_run (v := ?_) (by rfl) ?_ ?_; rotate_left 1; (· (intro j w' hS; go_simp; (try (simp only [↓IntWalk.iteOmega]; go_simp)); (try simp (disch := omega) only [IntWalk.i64_in]); try with_reducible rfl)); simp only [Act.put, List.setIfInBounds_toArray, List.set_cons_zero, List.set_cons_succ]) | (refine qs_skip (by rfl) ?_; simp only [Act.put, List.setIfInBounds_toArray, List.set_cons_zero, List.set_cons_succ])))
    refine qs_act ?_
    refine app_src rfl (.tmp 35) (.tmp 38) 22 rfl w1.heap.size 3 _ 1 8 Try.underlying22 infoInt rfl (by omega) _ 0 _ rfl O2.out _ (n - p) _ rfl (Src.of_rd (rd_from (HR.out.below B2.out) p (by omega))) (ints_oneCell _ _) (by omega) (by omega) L2.out.size ?_
    intro v3 w3 ho3 hg3 hor3
    have O3 := Lib.hid ho3
    have L3 := Lib.hid (L2.out.grown hg3 L2.out.size (fun k hk => (O2.out.lt k hk).1))
    have B3 := Lib.hid (below_chain HB1.out L3.out)
    clear ho3 hg3 hor3 O2 L2 B2
    refine wpList_nil ?_
    refine ⟨trivial, ?_⟩
    (repeat (first | (refine qs_now (v := ?_) (by rfl) ?_ ?_; rotate_left 1; (· (intro w' hS; go_simp; (try (simp only [↓IntWalk.iteOmega]; go_simp)); (try simp (disch := omega) only [IntWalk.i64_in]); try with_reducible rfl)); simp only [Act.put, List.setIfInBounds_toArray, List.set_cons_zero, List.set_cons_succ]) | (refine qs_run (v := ?_) (by rfl) ?_ ?_; rotate_left 1; (· (intro j w' hS; go_simp; (try (simp only [↓IntWalk.iteOmega]; go_simp)); (try simp (disch := omega) only [IntWalk.i64_in]); try with_reducible rfl)); simp only [Act.put, List.setIfInBounds_toArray, List.set_cons_zero, List.set_cons_succ]) | (refine qs_skip (by rfl) ?_; simp only [Act.put, List.setIfInBounds_toArray, List.set_cons_zero, List.set_cons_succ])))
    refine qs_act ?_
    refine app_src rfl (.tmp 39) (.tmp 42) 22 rfl w1.heap.size 3 _ 1 8 Try.underlying22 infoInt rfl (by omega) _ _ _ rfl O3.out _ p _ rfl (Src.of_rd (rd_take (HR.out.below B3.out) p (by omega))) (ints_oneCell _ _) (by omega) (by omega) L3.out.size ?_
    intro v4 w4 ho4 hg4 hor4
    have O4 := Lib.hid (show w4.ownsRow w1.heap.size 3 1 v4 n ((l.drop p ++ l.take p).map (Value.int .i64)) by
      have := ho4
      rw [show 0 + (n - p) + p = n from by omega] at this
      simpa using this)
    have L4 := Lib.hid (L3.out.grown hg4 L3.out.size (fun k hk => (O3.out.lt k hk).1))
    have B4 := Lib.hid (below_chain HB1.out L4.out)
    clear ho4 hg4 hor4 O3 L3 B3
    obtain ⟨A4, c4, hv4, hc4⟩ := own_slice O4.out
    subst hv4
    have R4 := Lib.hid (RdI.of_own O4.out)
    refine wpList_nil ?_
    refine ⟨trivial, ?_⟩
    (repeat (first | (refine qs_now (v := ?_) (by rfl) ?_ ?_; rotate_left 1; (· (intro w' hS; go_simp; (try (simp only [↓IntWalk.iteOmega]; go_simp)); (try simp (disch := omega) only [IntWalk.i64_in]); try with_reducible rfl)); simp only [Act.put, List.setIfInBounds_toArray, List.set_cons_zero, List.set_cons_succ]) | (refine qs_run (v := ?_) (by rfl) ?_ ?_; rotate_left 1; (· (intro j w' hS; go_simp; (try (simp only [↓IntWalk.iteOmega]; go_simp)); (try simp (disch := omega) only [IntWalk.i64_in]); try with_reducible rfl)); simp only [Act.put, List.setIfInBounds_toArray, List.set_cons_zero, List.set_cons_succ]) | (refine qs_skip (by rfl) ?_; simp only [Act.put, List.setIfInBounds_toArray, List.set_cons_zero, List.set_cons_succ])))
    refine qs_nil ?_
    go_wp2_with fail
    refine (lengths_any 1000000 stableSaid_all (Nat.le_refl _) l _ n cap most w4 (HR.out.below B4.out) (by omega) hms (.inl (by have := ones_len_le l; have := HL.out; omega))).mono ?_
    rintro ev w5 (⟨hno, _⟩ | ⟨_, A5, c5, rfl, ho5, hb5⟩)
    · rw [HOk.out] at hno; cases hno
    have B5 := Lib.hid (below_chain B4.out hb5)
    have R5 := Lib.hid (R4.out.below hb5)
    have Z5 := Lib.hid (RdI.of_own ho5)
    clear ho5 hb5 R4 L4 O4
    go_wp2_with fail
    refine (lengths_any 1000000 stableSaid_all (Nat.le_refl _) (l.drop p ++ l.take p) _ n c4 most w5 R5.out (by omega) hms (.inl (by have := ones_len_le (l.drop p ++ l.take p); have := HL2.out; omega))).mono ?_
    rintro ev w6 (⟨hno, _⟩ | ⟨_, A6, c6, rfl, ho6, hb6⟩)
    · rw [HOk2.out] at hno; cases hno
    have B6 := Lib.hid (below_chain B5.out hb6)
    have R6 := Lib.hid (R5.out.below hb6)
    have Z6 := Lib.hid (Z5.out.below hb6)
    have Y6 := Lib.hid (RdI.of_own ho6)
    clear ho6 hb6 R5 Z5
    have hn288 : n ≤ 288 := by have := (lenOk_parts HOk.out).1; have := HL.out; omega
    have F1 := Lib.hid (lens_fair HOk.out)
    have F2 := Lib.hid (lens_fair HOk2.out)
    rw [HL.out] at F1
    rw [HL2.out] at F2
    go_wp2_with fail
    refine (cost_any l (lengthsOf l most.toNat) (some ⟨b, off, none⟩) A5 n cap c5 w6 (HR.out.below B6.out) Z6.out hn288 F1.out).mono ?_
    rintro ev w7 ⟨rfl, hb7⟩
    have H67 := Lib.hid hb7
    clear hb7
    rw [HCo.out]
    go_wp2_with fail
    refine (cost_any (l.drop p ++ l.take p) (lengthsOf (l.drop p ++ l.take p) most.toNat) A4 A6 n c4 c6 w7 (R6.out.below H67.out) (Y6.out.below H67.out) hn288 F2.out).mono ?_
    rintro ev w8 ⟨rfl, hb8⟩
    have H68 := Lib.hid (below_chain H67.out hb8)
    clear hb8
    generalize costOf (l.drop p ++ l.take p) (lengthsOf (l.drop p ++ l.take p) most.toNat) = cost at *
    go_wp2
    have B8 := Lib.hid (below_chain B6.out H68.out)
    have Z8 := Lib.hid (Z6.out.below H68.out)
    have HFa : Hid (∀ i j, i < n → j < n → 0 < l.getD j 0 → l.getD j 0 < l.getD i 0 → (lengthsOf l most.toNat).getD i 0 ≤ (lengthsOf l most.toNat).getD j 0) := fun i j hi hj h1 h2 => lens_falls HOk.out (by rw [HL.out]; exact hi) (by rw [HL.out]; exact hj) h1 h2
    obtain ⟨b', off', rfl, hblt'⟩ := rd_some Z8.out (by omega)
    go_loopw [13] (TT1 n w8) (fun i _ => n - (intOf i).toNat)
    case atStart => exact ⟨0, by omega, rfl, Below.refl _ _⟩
    case round =>
      obtain ⟨i, hi, rfl, hbel⟩ := hrel
      have HBi := Lib.hid hbel
      clear hbel
      by_cases hilt : i < n
      · have hiI : (i : Int) < n := by omega
        go_wp2
        go_loopw [14] (TT1 n w8) (fun i _ => n - (intOf i).toNat)
        case atStart => exact ⟨0, by omega, rfl, HBi.out⟩
        case round =>
          obtain ⟨j, hj, rfl, hbel⟩ := hrel
          have HBj := Lib.hid hbel
          clear hbel
          by_cases hjlt : j < n
          · have hjI : (j : Int) < n := by omega
            have hbw := Lib.hid (below_chain B8.out HBj.out)
            have q1 := rd_cell HR.out hbw.out hilt
            have q2 := rd_cell HR.out hbw.out hjlt
            have q3 := rd_cell Z8.out HBj.out hilt
            have q4 := rd_cell Z8.out HBj.out hjlt
            have HF := Lib.hid (HFa.out i j hilt hjlt)
            generalize l.getD i 0 = x at *
            generalize l.getD j 0 = y at *
            generalize (lengthsOf l most.toNat).getD i 0 = u at *
            generalize (lengthsOf l most.toNat).getD j 0 = v at *
            by_cases hxy : y < x
            · have d1 : decide (y < x) = true := by simpa using hxy
              by_cases hy : 0 < y
              · have d2 : decide (0 < y) = true := by simpa using hy
                have d3 : decide (v < u) = false := by have := HF.out hy hxy; simp; omega
                go_wp2
                refine wp_region_qs (fun _ w' => w'.cell? ⟨b, off + i, none⟩ = some (.int .i64 x) ∧ w'.cell? ⟨b, off + j, none⟩ = some (.int .i64 y) ∧ w'.cell? ⟨b', off' + i, none⟩ = some (.int .i64 u) ∧ w'.cell? ⟨b', off' + j, none⟩ = some (.int .i64 v)) [(0, some 0), (1, some 0), (2, some 0), (3, some 0), (4, some 0), (5, some 0), (6, some 0), (7, some 0), (8, some 0), (9, some 0), (10, some 0), (11, some 0), (12, some 0), (13, some 0), (14, some 0), (15, some 0), (16, some 0), (17, some 0), (18, some 0), (19, some 0), (20, some 0), (21, some 0), (22, some 0), (23, some 0), (24, some 0), (25, some 0), (26, some 0)] (by kernel_rfl) (by kernel_rfl) (by kernel_rfl) (by kernel_rfl) (by kernel_rfl) (fun _ _ _ _ _ h => h) ⟨q1, q2, q3, q4⟩ ?_
                simp only [List.map_cons, List.map_nil, List.getD_cons_succ, List.getD_cons_zero]
                (repeat (first | (refine qs_now (v := ?_) (by rfl) ?_ ?_; rotate_left 1; (· (intro w' hS; go_simp; (try (simp only [↓IntWalk.iteOmega]; go_simp)); (try simp (disch := omega) only [IntWalk.i64_in]); try with_reducible rfl)); simp only [Act.put, List.setIfInBounds_toArray, List.set_cons_zero, List.set_cons_succ]) | (refine qs_run (v := ?_) (by rfl) ?_ ?_; rotate_left 1; (· (intro j w' hS; go_simp; (try (simp only [↓IntWalk.iteOmega]; go_simp)); (try simp (disch := omega) only [IntWalk.i64_in]); try with_reducible rfl)); simp only [Act.put, List.setIfInBounds_toArray, List.set_cons_zero, List.set_cons_succ]) | (refine qs_skip (by rfl) ?_; simp only [Act.put, List.setIfInBounds_toArray, List.set_cons_zero, List.set_cons_succ])))
                refine qs_nil ?_
                go_wp2
                go_roundw
                case rel => exact ⟨j + 1, by omega, by go_num, HBj.out.drew⟩
                case measure => simp [intOf]; omega
              · have d2 : decide (0 < y) = false := by simpa using hy
                go_wp2
                refine wp_region_qs (fun _ w' => w'.cell? ⟨b, off + i, none⟩ = some (.int .i64 x) ∧ w'.cell? ⟨b, off + j, none⟩ = some (.int .i64 y) ∧ w'.cell? ⟨b', off' + i, none⟩ = some (.int .i64 u) ∧ w'.cell? ⟨b', off' + j, none⟩ = some (.int .i64 v)) [(0, some 0), (1, some 0), (2, some 0), (3, some 0), (4, some 0), (5, some 0), (6, some 0), (7, some 0), (8, some 0), (9, some 0), (10, some 0), (11, some 0), (12, some 0), (13, some 0), (14, some 0), (15, some 0), (16, some 0), (17, some 0), (18, some 0), (19, some 0), (20, some 0), (21, some 0), (22, some 0), (23, some 0), (24, some 0), (25, some 0), (26, some 0)] (by kernel_rfl) (by kernel_rfl) (by kernel_rfl) (by kernel_rfl) (by kernel_rfl) (fun _ _ _ _ _ h => h) ⟨q1, q2, q3, q4⟩ ?_
                simp only [List.map_cons, List.map_nil, List.getD_cons_succ, List.getD_cons_zero]
                (repeat (first | (refine qs_now (v := ?_) (by rfl) ?_ ?_; rotate_left 1; (· (intro w' hS; go_simp; (try (simp only [↓IntWalk.iteOmega]; go_simp)); (try simp (disch := omega) only [IntWalk.i64_in]); try with_reducible rfl)); simp only [Act.put, List.setIfInBounds_toArray, List.set_cons_zero, List.set_cons_succ]) | (refine qs_run (v := ?_) (by rfl) ?_ ?_; rotate_left 1; (· (intro j w' hS; go_simp; (try (simp only [↓IntWalk.iteOmega]; go_simp)); (try simp (disch := omega) only [IntWalk.i64_in]); try with_reducible rfl)); simp only [Act.put, List.setIfInBounds_toArray, List.set_cons_zero, List.set_cons_succ]) | (refine qs_skip (by rfl) ?_; simp only [Act.put, List.setIfInBounds_toArray, List.set_cons_zero, List.set_cons_succ])))
                refine qs_nil ?_
                go_wp2
                go_roundw
                case rel => exact ⟨j + 1, by omega, by go_num, HBj.out.drew⟩
                case measure => simp [intOf]; omega
            · have d1 : decide (y < x) = false := by simpa using hxy
              go_wp2
              refine wp_region_qs (fun _ w' => w'.cell? ⟨b, off + i, none⟩ = some (.int .i64 x) ∧ w'.cell? ⟨b, off + j, none⟩ = some (.int .i64 y) ∧ w'.cell? ⟨b', off' + i, none⟩ = some (.int .i64 u) ∧ w'.cell? ⟨b', off' + j, none⟩ = some (.int .i64 v)) [(0, some 0), (1, some 0), (2, some 0), (3, some 0), (4, some 0), (5, some 0), (6, some 0), (7, some 0), (8, some 0), (9, some 0), (10, some 0), (11, some 0), (12, some 0), (13, some 0), (14, some 0), (15, some 0), (16, some 0), (17, some 0), (18, some 0), (19, some 0), (20, some 0), (21, some 0), (22, some 0), (23, some 0), (24, some 0), (25, some 0), (26, some 0)] (by kernel_rfl) (by kernel_rfl) (by kernel_rfl) (by kernel_rfl) (by kernel_rfl) (fun _ _ _ _ _ h => h) ⟨q1, q2, q3, q4⟩ ?_
              simp only [List.map_cons, List.map_nil, List.getD_cons_succ, List.getD_cons_zero]
              (repeat (first | (refine qs_now (v := ?_) (by rfl) ?_ ?_; rotate_left 1; (· (intro w' hS; go_simp; (try (simp only [↓IntWalk.iteOmega]; go_simp)); (try simp (disch := omega) only [IntWalk.i64_in]); try with_reducible rfl)); simp only [Act.put, List.setIfInBounds_toArray, List.set_cons_zero, List.set_cons_succ]) | (refine qs_run (v := ?_) (by rfl) ?_ ?_; rotate_left 1; (· (intro j w' hS; go_simp; (try (simp only [↓IntWalk.iteOmega]; go_simp)); (try simp (disch := omega) only [IntWalk.i64_in]); try with_reducible rfl)); simp only [Act.put, List.setIfInBounds_toArray, List.set_cons_zero, List.set_cons_succ]) | (refine qs_skip (by rfl) ?_; simp only [Act.put, List.setIfInBounds_toArray, List.set_cons_zero, List.set_cons_succ])))
              refine qs_nil ?_
              go_wp2
              go_roundw
              case rel => exact ⟨j + 1, by omega, by go_num, HBj.out.drew⟩
              case measure => simp [intOf]; omega
          · obtain rfl : j = n := by omega
            go_wp2
            go_roundw
            case rel => exact ⟨i + 1, by omega, by go_num, HBj.out⟩
            case measure => simp [intOf]; omega
      · obtain rfl : i = n := by omega
        go_wp2
        go_ret
        exact ⟨rfl, below_chain B8.out HBi.out⟩
end Go.Proofs.Ytacidmamfkfipaa
