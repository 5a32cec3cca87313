/-
  The document's Least (peatbankref04): the least cost.
-/
import Derived.Test.YtacidmamfkfipaaRefLight
import Derived.Test.YtacidmamfkfipaaPairs
namespace Go.Proofs.Ytacidmamfkfipaa
open Go.RowKit
set_option linter.unusedVariables false

theorem rd_cell {k : IntKind} {w w' : World} {b off n : Nat} {zs : List Int} (h : RdI k w (some ⟨b, off, none⟩) n zs) (hb : Below w.heap.size w w') {j : Nat} (hj : j < n) : w'.cell? ⟨b, off + j, none⟩ = some (.int k (zs.getD j 0)) := by
  obtain ⟨b2, off2, e2, _, hz2⟩ := h.cell hb hj
  injection e2 with e2
  injection e2 with e2 e3
  subst e2
  subst e3
  exact hz2
theorem rd_some {k : IntKind} {w : World} {A : Option Addr} {n : Nat} {zs : List Int} (h : RdI k w A n zs) (hn : 0 < n) : ∃ b off, A = some ⟨b, off, none⟩ ∧ b < w.heap.size := by
  obtain ⟨b2, off2, e2, h2, _⟩ := h.2 hn
  exact ⟨b2, off2, e2, h2⟩
theorem pw_take {R : List Int} {j : Nat} (h : 2 * j + 1 < R.length) : pw (R.take (2 * (j + 1))) = pw (R.take (2 * j)) ++ [R.getD (2 * j) 0 + R.getD (2 * j + 1) 0] := by
  rw [show 2 * (j + 1) = 2 * j + 1 + 1 from by omega, take_snoc R (2 * j + 1) h, take_snoc R (2 * j) (by omega), List.append_assoc]
  exact pw_snoc _ _ _ j (by simp; omega)
theorem pw_done {R : List Int} {j : Nat} (h : R.length ≤ 2 * j + 1) (h2 : 2 * j ≤ R.length) : pw (R.take (2 * j)) = pw R := by
  rcases Nat.lt_or_ge (2 * j) R.length with h' | h'
  · have e : R = R.take (2 * j) ++ [R.getD (2 * j) 0] := by
      have := take_snoc R (2 * j) h'
      rw [List.take_of_length_le (by omega)] at this
      exact this
    conv => rhs; rw [e]
    rw [pw_odd _ _ j (by simp; omega)]
  · rw [List.take_of_length_le h']
theorem sum_snoc (R : List Int) (k : Nat) (h : k < R.length) : (R.take (k + 1)).sum = (R.take k).sum + R.getD k 0 := by rw [take_snoc R k h]; simp
theorem sum_bd {R : List Int} {B : Int} (h : ∀ z ∈ R, 0 ≤ z ∧ z ≤ B) : ∀ k, k ≤ R.length → 0 ≤ (R.take k).sum ∧ (R.take k).sum ≤ B * k
  | 0, _ => by simp
  | k + 1, hk => by
    have ih := sum_bd h k (by omega)
    have := h (R.getD k 0) (by simp [show k < R.length by omega])
    rw [sum_snoc R k (by omega), Int.natCast_succ, Int.mul_add]
    omega

def E1 (W : List Int) (s i : Value) : Prop := ∃ k : Nat, k ≤ W.length ∧ i = .int .i64 k ∧ s = .int .i64 (W.take k).sum
def E5 (R : List Int) (m : Nat) (s i : Value) : Prop := ∃ k : Nat, k ≤ m ∧ i = .int .i64 k ∧ s = .int .i64 (R.take k).sum
def E2 (W : List Int) (ms : Nat) (A : Option Addr) (w : World) (v d : Value) (wr : World) : Prop :=
  ∃ (k : Nat) (B : Option Addr) (c : Nat), k ≤ ms ∧ d = .int .i64 k ∧ v = .slice B (rowW W k).length c ∧ RdI .i64 wr B (rowW W k).length (rowW W k) ∧ RdI .i64 wr A W.length W ∧ Below w.heap.size w wr
def E3 (R : List Int) (w0 : World) (v i : Value) (wr : World) : Prop :=
  ∃ j : Nat, 2 * j ≤ R.length ∧ i = .int .i64 ((2 * j : Nat) : Int) ∧ wr.ownsRow w0.heap.size 3 1 v j ((pw (R.take (2 * j))).map (Value.int .i64)) ∧ Below w0.heap.size w0 wr
def E4 (W P : List Int) (w1 : World) (v a b : Value) (wr : World) : Prop :=
  ∃ (i j : Nat) (X : List Int), i ≤ W.length ∧ j ≤ P.length ∧ a = .int .i64 i ∧ b = .int .i64 j ∧ wr.ownsRow w1.heap.size 3 1 v (i + j) (X.map (Value.int .i64)) ∧ X ++ mw (W.drop i) (P.drop j) = mw W P ∧ Below w1.heap.size w1 wr

set_option maxHeartbeats 4000000 in
set_option maxRecDepth 100000 in
theorem least_any (l : List Int) (A : Option Addr) (n cap : Nat) (most : Int) (w : World) (hr : RdI .i64 w A n l) (hok : lengthsOk l most = true) :
    Calls Try.prog 17 #[.slice A n cap, .int .i64 most] w fun e w' => e = .returned (.int .i64 (leastOf l most.toNat)) ∧ Below w.heap.size w w' := by
  obtain ⟨hn, hm1, hm2, hf, hpow⟩ := lenOk_parts hok
  have HR := Lib.hid hr
  rw [hr.1] at hn
  have HF := Lib.hid hf
  obtain ⟨ms, rfl⟩ : ∃ ms : Nat, most = ms := ⟨most.toNat, by omega⟩
  have HE := Lib.hid (least_rows l ms (by omega))
  rw [← lightW_len] at hpow
  have HPow := Lib.hid (fun h2 => rowW_enough (l := l) (ms := ms) hpow (by omega) h2)
  have hW : (lightW l).length ≤ 288 := by
    rw [lightW_len]
    have := (ones_facts l hf).2.2.2
    rw [hr.1] at this
    omega
  have HWB := Lib.hid (light_bd hf)
  have HRB := Lib.hid (fun k hk => rowW_bd (l := l) hf (by rw [hr.1]; exact hn) (k := k) hk)
  have HRL := Lib.hid (fun k => rowW_len (l := l) hW k)
  have hmsT : ((ms : Int)).toNat = ms := by omega
  rw [hmsT]
  have hms1 : 1 ≤ ms := by omega
  have hms2 : ms ≤ 15 := by omega
  clear hr hok hf hpow hmsT
  generalize hWe : lightW l = W at *
  have HWe := Lib.hid hWe
  clear hWe
  by_cases h2 : W.length < 2
  · have d2 : decide ((W.length : Int) < 2) = true := by simp; omega
    rw [if_pos h2] at HE
    go_enter Try.func17, Try.ntmps17
    go_wp2_with (go_at_call 33; refine (light_any l A n cap w HR.out (by omega) HF.out).mono ?_; rintro ev w1 ⟨v1, rfl, ho1, hb1⟩; have HB1 := Lib.hid hb1; have O1 := Lib.hid ho1; clear ho1 hb1; rw [HWe.out] at O1; obtain ⟨A1, c1, hv1, hc1⟩ := own_slice O1.out; subst hv1; have R1 := Lib.hid (RdI.of_own O1.out))
    go_loop [6, 7] (E1 W) (fun _ i => W.length - (intOf i).toNat)
    case atStart => exact ⟨0, by omega, rfl, rfl⟩
    case round =>
      obtain ⟨k, hk, rfl, rfl⟩ := hrel
      have hsb := sum_bd HWB.out k hk
      by_cases hlt : k < W.length
      · have hltI : (k : Int) < W.length := by omega
        obtain ⟨b, off, rfl, _, hx⟩ := R1.out.cell (Below.refl _ _) hlt
        have hxb := HWB.out (W.getD k 0) (by simp [hlt])
        have HS := Lib.hid (sum_snoc W k hlt)
        generalize W.getD k 0 = x at *
        go_wp2
        go_round
        case rel => exact ⟨k + 1, by omega, by go_num, by rw [HS.out]⟩
        case measure => simp [intOf]; omega
      · obtain rfl : k = W.length := by omega
        go_wp2
        go_ret
        refine ⟨?_, HB1.out⟩
        rw [HE.out]
        rfl
  · have d2 : decide ((W.length : Int) < 2) = false := by simp; omega
    rw [if_neg h2] at HE
    go_enter Try.func17, Try.ntmps17
    go_wp2_with (go_at_call 33; refine (light_any l A n cap w HR.out (by omega) HF.out).mono ?_; rintro ev w1 ⟨v1, rfl, ho1, hb1⟩; have HB1 := Lib.hid hb1; have O1 := Lib.hid ho1; clear ho1 hb1; rw [HWe.out] at O1; obtain ⟨A1, c1, hv1, hc1⟩ := own_slice O1.out; subst hv1; have R1 := Lib.hid (RdI.of_own O1.out))
    go_loopw [8, 9] (E2 W ms A1 w) (fun _ d _ => ms - (intOf d).toNat)
    case atStart => exact ⟨0, none, 0, by omega, rfl, rfl, RdI.nil _, R1.out, HB1.out⟩
    case round =>
      obtain ⟨d, B, cB, hd, rfl, rfl, hrd, hrw, hbel⟩ := hrel
      have HRd := Lib.hid hrd
      have HRw := Lib.hid hrw
      have HBel := Lib.hid hbel
      clear hrd hrw hbel
      obtain ⟨wo, hwo⟩ : ∃ wo : World, wo = wr := ⟨_, rfl⟩
      subst hwo
      have hRl := HRL.out d
      have HRb := Lib.hid (HRB.out d (by omega))
      by_cases hlt : d < ms
      · have hltI : (d : Int) < ms := by omega
        have HSu := Lib.hid (show rowW W (d + 1) = mw W (pw (rowW W d)) from rfl)
        generalize rowW W d = R at *
        go_wp2
        go_loopw [10, 11] (E3 R wo) (fun _ i _ => R.length - (intOf i).toNat)
        case atStart => exact ⟨0, by omega, rfl, by simpa [pw] using World.ownsRow_nil _ _ _ _, Below.refl _ _⟩
        case round =>
          obtain ⟨j, hj, rfl, ho, hbel⟩ := hrel
          have HO := Lib.hid ho
          have HB3 := Lib.hid hbel
          clear ho hbel
          by_cases hj2 : 2 * j + 1 < R.length
          · have hjI : ((2 * j : Nat) : Int) + 1 < R.length := by omega
            obtain ⟨b, off, rfl, hblt⟩ := rd_some HRd.out (by omega)
            have q1 := rd_cell HRd.out HB3.out (j := 2 * j) (by omega)
            have q2 := rd_cell HRd.out HB3.out (j := 2 * j + 1) (by omega)
            have hx1 := HRb.out (R.getD (2 * j) 0) (by simp [show 2 * j < R.length by omega])
            have hx2 := HRb.out (R.getD (2 * j + 1) 0) (by simp [hj2])
            have HPT := Lib.hid (pw_take hj2)
            generalize hx1e : R.getD (2 * j) 0 = x1 at *
            generalize hx2e : R.getD (2 * j + 1) 0 = x2 at *
            generalize hjj : 2 * j = jj at *
            have HJJ := Lib.hid hjj
            have HX1 := Lib.hid hx1e
            have HX2 := Lib.hid hx2e
            clear hjj hx1e hx2e
            go_wp2
            refine wp_region_qs (fun _ w' => w'.cell? ⟨b, off + jj, none⟩ = some (.int .i64 x1) ∧ w'.cell? ⟨b, off + (jj + 1), none⟩ = some (.int .i64 x2)) [(0, some 1), (1, some 2), (2, some 2), (3, some 2), (4, some 2), (5, some 2), (6, some 2), (7, some 2), (8, some 2), (9, some 2), (10, some 1), (11, none), (12, none), (13, some 2)] (by kernel_rfl) (by kernel_rfl) (by kernel_rfl) (by kernel_rfl) (by kernel_rfl) (fun _ _ _ _ _ h => h) ⟨q1, q2⟩ ?_
            simp only [List.map_cons, List.map_nil, List.getD_cons_succ, List.getD_cons_zero]
            (repeat (first | (refine qs_now (v := ?_) (by rfl) ?_ ?_; rotate_left 1; (· (intro w' hS; go_simp; (try (simp only [↓IntWalk.iteOmega]; go_simp)); (try simp (disch := omega) only [IntWalk.i64_in]); try with_reducible rfl)); simp only [Act.put, List.setIfInBounds_toArray, List.set_cons_zero, List.set_cons_succ]) | (refine qs_run (v := ?_) (by rfl) ?_ ?_; rotate_left 1; (· (intro j w' hS; go_simp; (try (simp only [↓IntWalk.iteOmega]; go_simp)); (try simp (disch := omega) only [IntWalk.i64_in]); try with_reducible rfl)); simp only [Act.put, List.setIfInBounds_toArray, List.set_cons_zero, List.set_cons_succ]) | (refine qs_skip (by rfl) ?_; simp only [Act.put, List.setIfInBounds_toArray, List.set_cons_zero, List.set_cons_succ])))
            refine qs_act ?_
            go_wp2
            obtain ⟨w3, hw3⟩ : ∃ w3, w3 = (wr.alloc (.cells #[.int .i64 (x1 + x2)] 3)).drew := ⟨_, rfl⟩
            rw [← hw3]
            have L3 := Lib.hid (show Below wr.heap.size wr w3 by rw [hw3]; exact ((Below.refl _ _).alloc (Nat.le_refl _) _).drew)
            have S3 := Lib.hid (show Src w3 1 (.slice (some ⟨wr.heap.size, 0, none⟩) 1 1) 1 [.int .i64 (x1 + x2)] by rw [hw3]; exact src_one _ _ _)
            clear hw3
            have hsz := HB3.out.size
            refine ⟨⟨keepCell' L3.out (by omega) q1, keepCell' L3.out (by omega) q2⟩, ?_⟩
            (repeat (first | (refine qs_now (v := ?_) (by rfl) ?_ ?_; rotate_left 1; (· (intro w' hS; go_simp; (try (simp only [↓IntWalk.iteOmega]; go_simp)); (try simp (disch := omega) only [IntWalk.i64_in]); try with_reducible rfl)); simp only [Act.put, List.setIfInBounds_toArray, List.set_cons_zero, List.set_cons_succ]) | (refine qs_run (v := ?_) (by rfl) ?_ ?_; rotate_left 1; (· (intro j w' hS; go_simp; (try (simp only [↓IntWalk.iteOmega]; go_simp)); (try simp (disch := omega) only [IntWalk.i64_in]); try with_reducible rfl)); simp only [Act.put, List.setIfInBounds_toArray, List.set_cons_zero, List.set_cons_succ]) | (refine qs_skip (by rfl) ?_; simp only [Act.put, List.setIfInBounds_toArray, List.set_cons_zero, List.set_cons_succ])))
            refine qs_act ?_
            have O3 := Lib.hid (own_below HO.out L3.out)
            have M3 := Lib.hid (below_chain HB3.out L3.out)
            refine app_src rfl (.tmp 47) (.tmp 58) 22 rfl wo.heap.size 3 _ 1 8 Try.underlying22 infoInt rfl (by omega) _ j _ rfl O3.out _ 1 _ rfl S3.out (by simp [Value.oneCell']) (by have := HJJ.out; omega) (by have := HJJ.out; omega) M3.out.size ?_
            intro v4 w4 ho4 hg4 hor4
            have O4 := Lib.hid ho4
            have M4 := Lib.hid (M3.out.grown hg4 M3.out.size (fun k hk => (HO.out.lt k hk).1))
            have q1' := rd_cell HRd.out M4.out (j := jj) (by omega)
            have q2' := rd_cell HRd.out M4.out (j := jj + 1) (by omega)
            rw [HX1.out] at q1'
            rw [HX2.out] at q2'
            clear ho4 hg4 hor4
            refine wpList_nil ?_
            refine ⟨⟨q1', q2'⟩, ?_⟩
            (repeat (first | (refine qs_now (v := ?_) (by rfl) ?_ ?_; rotate_left 1; (· (intro w' hS; go_simp; (try (simp only [↓IntWalk.iteOmega]; go_simp)); (try simp (disch := omega) only [IntWalk.i64_in]); try with_reducible rfl)); simp only [Act.put, List.setIfInBounds_toArray, List.set_cons_zero, List.set_cons_succ]) | (refine qs_run (v := ?_) (by rfl) ?_ ?_; rotate_left 1; (· (intro j w' hS; go_simp; (try (simp only [↓IntWalk.iteOmega]; go_simp)); (try simp (disch := omega) only [IntWalk.i64_in]); try with_reducible rfl)); simp only [Act.put, List.setIfInBounds_toArray, List.set_cons_zero, List.set_cons_succ]) | (refine qs_skip (by rfl) ?_; simp only [Act.put, List.setIfInBounds_toArray, List.set_cons_zero, List.set_cons_succ])))
            refine qs_nil ?_
            clear q1 q2 q1' q2'
            go_wp2
            go_roundw
            case rel =>
              have hjj := HJJ.out
              refine ⟨j + 1, by omega, by rw [← hjj]; go_num, ?_, M4.out⟩
              rw [HPT.out]
              simpa using O4.out
            case measure => simp [intOf]; omega
          · have hjI : ¬ ((2 * j : Nat) : Int) + 1 < R.length := by omega
            have HPD := Lib.hid (pw_done (R := R) (j := j) (by omega) hj)
            rw [HPD.out] at HO
            have hjl : j = (pw R).length := by have := HO.out.1; simpa using this.symm
            have hpl := pw_len R
            obtain ⟨P, hP⟩ : ∃ P, P = pw R := ⟨_, rfl⟩
            rw [← hP] at hjl hpl HO HSu
            subst hjl
            have hpl2 : P.length ≤ 288 := by omega
            clear HPD hP hpl
            obtain ⟨AP1, cP, hvP, hcP⟩ := own_slice HO.out
            subst hvP
            have RP := Lib.hid (RdI.of_own HO.out)
            have RW := Lib.hid (HRw.out.below HB3.out)
            have HBw := Lib.hid (below_chain HBel.out HB3.out)
            obtain ⟨w5, hw5⟩ : ∃ w5 : World, w5 = wr := ⟨_, rfl⟩
            subst hw5
            go_wp2
            go_loopw [12, 13, 14] (E4 W P w5) (fun _ a b _ => W.length + P.length - ((intOf a).toNat + (intOf b).toNat))
            case atStart => exact ⟨0, 0, [], by omega, by omega, rfl, rfl, by simpa using World.ownsRow_nil _ _ _ _, by simp, Below.refl _ _⟩
            case round =>
              obtain ⟨i, j, X, hi, hj', rfl, rfl, ho, hX, hbel⟩ := hrel
              have HO4 := Lib.hid ho
              have HB4 := Lib.hid hbel
              have HX := Lib.hid hX
              clear ho hX hbel
              by_cases hend : W.length ≤ i ∧ P.length ≤ j
              · obtain ⟨h1, h2⟩ := hend
                obtain rfl : i = W.length := by omega
                obtain rfl : j = P.length := by omega
                have e1 : decide ((W.length : Int) < W.length) = false := by simp
                have e2 : decide ((P.length : Int) < P.length) = false := by simp
                have HXe := Lib.hid (show X = mw W P by have := HX.out; simpa [mw] using this)
                have HXl := Lib.hid (mw_len W P)
                obtain ⟨A4, c4, hv4, hc4⟩ := own_slice HO4.out
                subst hv4
                have R4 := Lib.hid (RdI.of_own HO4.out)
                have R5 := Lib.hid (RW.out.below HB4.out)
                have B5 := Lib.hid (below_chain HBw.out HB4.out)
                rw [HXe.out] at R4
                go_wp2
                go_roundw
                case rel => exact ⟨d + 1, A4, c4, by omega, by go_num, by rw [HSu.out, HXl.out], by rw [HSu.out, HXl.out]; exact R4.out, R5.out, B5.out⟩
                case measure => simp [intOf]; omega
              · by_cases hiW : i < W.length
                · have hiI : (i : Int) < W.length := by omega
                  have di : decide ((i : Int) < W.length) = true := by simpa using hiI
                  have diN : decide (i < W.length) = true := by simp; omega
                  obtain ⟨b, off, rfl, hblt⟩ := rd_some RW.out (by omega)
                  have q1 := rd_cell RW.out HB4.out (j := i) hiW
                  by_cases hjP : j < P.length
                  · have hjI : (j : Int) < P.length := by omega
                    have dj : decide ((P.length : Int) ≤ j) = false := by simp; omega
                    have djN : decide (P.length ≤ j) = false := by simp; omega
                    have dj2 : decide ((j : Int) < P.length) = true := by simp; omega
                    have dj2N : decide (j < P.length) = true := by simp; omega
                    obtain ⟨b', off', rfl, hblt'⟩ := rd_some RP.out (by omega)
                    have q2 := rd_cell RP.out HB4.out (j := j) hjP
                    have HML := Lib.hid (fun h => mw_left (u := W) (v := P) (a := i) (b := j) hiW (.inr h))
                    have HMR := Lib.hid (fun h => mw_right (u := W) (v := P) (a := i) (b := j) hjP (.inr h))
                    generalize W.getD i 0 = x at *
                    generalize P.getD j 0 = y at *
                    by_cases hxy : x ≤ y
                    · have dxy : decide (x ≤ y) = true := by simpa using hxy
                      replace HML := Lib.hid (HML.out hxy)
                      go_wp2
                      refine wp_region_qs (fun _ w' => w'.cell? ⟨b, off + i, none⟩ = some (.int .i64 x) ∧ w'.cell? ⟨b', off' + j, none⟩ = some (.int .i64 y)) [(0, some 0), (1, some 0), (2, some 0), (3, some 0), (4, some 0), (5, some 0), (6, some 0), (7, some 0), (8, some 0), (9, some 0), (10, some 0), (11, some 0), (12, some 0), (13, some 0), (14, some 0), (15, some 0), (16, some 0), (17, some 0), (18, some 0), (19, some 0), (20, some 0)] (by kernel_rfl) (by kernel_rfl) (by kernel_rfl) (by kernel_rfl) (by kernel_rfl) (fun _ _ _ _ _ h => h) ⟨q1, q2⟩ ?_
                      simp only [List.map_cons, List.map_nil, List.getD_cons_succ, List.getD_cons_zero]
                      (repeat (first | (refine qs_now (v := ?_) (by rfl) ?_ ?_; rotate_left 1; (· (intro w' hS; go_simp; (try (simp only [↓IntWalk.iteOmega]; go_simp)); (try simp (disch := omega) only [IntWalk.i64_in]); try with_reducible rfl)); simp only [Act.put, List.setIfInBounds_toArray, List.set_cons_zero, List.set_cons_succ]) | (refine qs_run (v := ?_) (by rfl) ?_ ?_; rotate_left 1; (· (intro j w' hS; go_simp; (try (simp only [↓IntWalk.iteOmega]; go_simp)); (try simp (disch := omega) only [IntWalk.i64_in]); try with_reducible rfl)); simp only [Act.put, List.setIfInBounds_toArray, List.set_cons_zero, List.set_cons_succ]) | (refine qs_skip (by rfl) ?_; simp only [Act.put, List.setIfInBounds_toArray, List.set_cons_zero, List.set_cons_succ])))
                      refine qs_nil ?_
                      go_wp2_with (refine app_src rfl (.tmp 91) (.tmp 96) 22 rfl w5.heap.size 3 _ 1 8 Try.underlying22 infoInt rfl (by omega) _ (i + j) _ rfl (HO4.out.alloc _) _ 1 [Value.int .i64 x] rfl (src_one _ _ _) (by simp [Value.oneCell']) (by omega) (by omega) (by have := HB4.out.size; simp; omega) ?_; intro v6 w6 ho6 hg6 hor6; have O6 := Lib.hid ho6; have M6 := Lib.hid ((HB4.out.drew.alloc HB4.out.size _).grown hg6 (by have := HB4.out.size; simp; omega) (fun k hk => (HO4.out.lt k hk).1)); clear ho6 hg6 hor6)
                      go_roundw
                      case rel =>
                        refine ⟨i + 1, j, X ++ [x], by omega, by omega, by go_num, rfl, ?_, by rw [← HX.out, HML.out]; simp, M6.out⟩
                        rw [show i + 1 + j = i + j + 1 from by omega]
                        simpa using O6.out
                      case measure => simp [intOf]; omega
                    · have dxy : decide (x ≤ y) = false := by simpa using hxy
                      replace HMR := Lib.hid (HMR.out hxy)
                      go_wp2
                      refine wp_region_qs (fun _ w' => w'.cell? ⟨b, off + i, none⟩ = some (.int .i64 x) ∧ w'.cell? ⟨b', off' + j, none⟩ = some (.int .i64 y)) [(0, some 0), (1, some 0), (2, some 0), (3, some 0), (4, some 0), (5, some 0), (6, some 0), (7, some 0), (8, some 0), (9, some 0), (10, some 0), (11, some 0), (12, some 0), (13, some 0), (14, some 0), (15, some 0), (16, some 0), (17, some 0), (18, some 0), (19, some 0), (20, some 0)] (by kernel_rfl) (by kernel_rfl) (by kernel_rfl) (by kernel_rfl) (by kernel_rfl) (fun _ _ _ _ _ h => h) ⟨q1, q2⟩ ?_
                      simp only [List.map_cons, List.map_nil, List.getD_cons_succ, List.getD_cons_zero]
                      (repeat (first | (refine qs_now (v := ?_) (by rfl) ?_ ?_; rotate_left 1; (· (intro w' hS; go_simp; (try (simp only [↓IntWalk.iteOmega]; go_simp)); (try simp (disch := omega) only [IntWalk.i64_in]); try with_reducible rfl)); simp only [Act.put, List.setIfInBounds_toArray, List.set_cons_zero, List.set_cons_succ]) | (refine qs_run (v := ?_) (by rfl) ?_ ?_; rotate_left 1; (· (intro j w' hS; go_simp; (try (simp only [↓IntWalk.iteOmega]; go_simp)); (try simp (disch := omega) only [IntWalk.i64_in]); try with_reducible rfl)); simp only [Act.put, List.setIfInBounds_toArray, List.set_cons_zero, List.set_cons_succ]) | (refine qs_skip (by rfl) ?_; simp only [Act.put, List.setIfInBounds_toArray, List.set_cons_zero, List.set_cons_succ])))
                      refine qs_nil ?_
                      go_wp2_with (refine app_src rfl (.tmp 100) (.tmp 105) 22 rfl w5.heap.size 3 _ 1 8 Try.underlying22 infoInt rfl (by omega) _ (i + j) _ rfl (HO4.out.alloc _) _ 1 [Value.int .i64 y] rfl (src_one _ _ _) (by simp [Value.oneCell']) (by omega) (by omega) (by have := HB4.out.size; simp; omega) ?_; intro v6 w6 ho6 hg6 hor6; have O6 := Lib.hid ho6; have M6 := Lib.hid ((HB4.out.drew.alloc HB4.out.size _).grown hg6 (by have := HB4.out.size; simp; omega) (fun k hk => (HO4.out.lt k hk).1)); clear ho6 hg6 hor6)
                      go_roundw
                      case rel =>
                        refine ⟨i, j + 1, X ++ [y], by omega, by omega, rfl, by go_num, ?_, by rw [← HX.out, HMR.out]; simp, M6.out⟩
                        rw [show i + (j + 1) = i + j + 1 from by omega]
                        simpa using O6.out
                      case measure => simp [intOf]; omega
                  · have dj : decide ((P.length : Int) ≤ j) = true := by simp; omega
                    have djN : decide (P.length ≤ j) = true := by simp; omega
                    have HML := Lib.hid (mw_left (u := W) (v := P) (a := i) (b := j) hiW (.inl (by omega)))
                    generalize W.getD i 0 = x at *
                    go_wp2
                    refine wp_region_qs (fun _ w' => True) [(0, some 0), (1, some 0), (2, some 0), (3, some 0), (4, some 0), (5, some 0), (6, some 0), (7, some 0), (8, some 0), (9, some 0), (10, some 0), (11, some 0), (12, some 0), (13, some 0), (14, some 0), (15, some 0), (16, some 0), (17, some 0), (18, some 0), (19, some 0), (20, some 0)] (by kernel_rfl) (by kernel_rfl) (by kernel_rfl) (by kernel_rfl) (by kernel_rfl) (fun _ _ _ _ _ h => h) trivial ?_
                    simp only [List.map_cons, List.map_nil, List.getD_cons_succ, List.getD_cons_zero]
                    (repeat (first | (refine qs_now (v := ?_) (by rfl) ?_ ?_; rotate_left 1; (· (intro w' hS; go_simp; (try (simp only [↓IntWalk.iteOmega]; go_simp)); (try simp (disch := omega) only [IntWalk.i64_in]); try with_reducible rfl)); simp only [Act.put, List.setIfInBounds_toArray, List.set_cons_zero, List.set_cons_succ]) | (refine qs_run (v := ?_) (by rfl) ?_ ?_; rotate_left 1; (· (intro j w' hS; go_simp; (try (simp only [↓IntWalk.iteOmega]; go_simp)); (try simp (disch := omega) only [IntWalk.i64_in]); try with_reducible rfl)); simp only [Act.put, List.setIfInBounds_toArray, List.set_cons_zero, List.set_cons_succ]) | (refine qs_skip (by rfl) ?_; simp only [Act.put, List.setIfInBounds_toArray, List.set_cons_zero, List.set_cons_succ])))
                    refine qs_nil ?_
                    go_wp2_with (refine app_src rfl (.tmp 91) (.tmp 96) 22 rfl w5.heap.size 3 _ 1 8 Try.underlying22 infoInt rfl (by omega) _ (i + j) _ rfl (HO4.out.alloc _) _ 1 [Value.int .i64 x] rfl (src_one _ _ _) (by simp [Value.oneCell']) (by omega) (by omega) (by have := HB4.out.size; simp; omega) ?_; intro v6 w6 ho6 hg6 hor6; have O6 := Lib.hid ho6; have M6 := Lib.hid ((HB4.out.drew.alloc HB4.out.size _).grown hg6 (by have := HB4.out.size; simp; omega) (fun k hk => (HO4.out.lt k hk).1)); clear ho6 hg6 hor6)
                    go_roundw
                    case rel =>
                      refine ⟨i + 1, j, X ++ [x], by omega, by omega, by go_num, rfl, ?_, by rw [← HX.out, HML.out]; simp, M6.out⟩
                      rw [show i + 1 + j = i + j + 1 from by omega]
                      simpa using O6.out
                    case measure => simp [intOf]; omega
                · have di : decide ((i : Int) < W.length) = false := by simp; omega
                  have diN : decide (i < W.length) = false := by simp; omega
                  have hjP : j < P.length := by omega
                  have hjI : (j : Int) < P.length := by omega
                  have dj : decide ((P.length : Int) ≤ j) = false := by simp; omega
                  have djN : decide (P.length ≤ j) = false := by simp; omega
                  have dj2 : decide ((j : Int) < P.length) = true := by simp; omega
                  have dj2N : decide (j < P.length) = true := by simp; omega
                  obtain ⟨b', off', rfl, hblt'⟩ := rd_some RP.out (by omega)
                  have q2 := rd_cell RP.out HB4.out (j := j) hjP
                  have HMR := Lib.hid (mw_right (u := W) (v := P) (a := i) (b := j) hjP (.inl (by omega)))
                  generalize P.getD j 0 = y at *
                  go_wp2
                  refine wp_region_qs (fun _ w' => True) [(0, some 0), (1, some 0), (2, some 0), (3, some 0), (4, some 0), (5, some 0), (6, some 0), (7, some 0), (8, some 0), (9, some 0), (10, some 0), (11, some 0), (12, some 0), (13, some 0), (14, some 0), (15, some 0), (16, some 0), (17, some 0), (18, some 0), (19, some 0), (20, some 0)] (by kernel_rfl) (by kernel_rfl) (by kernel_rfl) (by kernel_rfl) (by kernel_rfl) (fun _ _ _ _ _ h => h) trivial ?_
                  simp only [List.map_cons, List.map_nil, List.getD_cons_succ, List.getD_cons_zero]
                  (repeat (first | (refine qs_now (v := ?_) (by rfl) ?_ ?_; rotate_left 1; (· (intro w' hS; go_simp; (try (simp only [↓IntWalk.iteOmega]; go_simp)); (try simp (disch := omega) only [IntWalk.i64_in]); try with_reducible rfl)); simp only [Act.put, List.setIfInBounds_toArray, List.set_cons_zero, List.set_cons_succ]) | (refine qs_run (v := ?_) (by rfl) ?_ ?_; rotate_left 1; (· (intro j w' hS; go_simp; (try (simp only [↓IntWalk.iteOmega]; go_simp)); (try simp (disch := omega) only [IntWalk.i64_in]); try with_reducible rfl)); simp only [Act.put, List.setIfInBounds_toArray, List.set_cons_zero, List.set_cons_succ]) | (refine qs_skip (by rfl) ?_; simp only [Act.put, List.setIfInBounds_toArray, List.set_cons_zero, List.set_cons_succ])))
                  refine qs_nil ?_
                  go_wp2_with (refine app_src rfl (.tmp 100) (.tmp 105) 22 rfl w5.heap.size 3 _ 1 8 Try.underlying22 infoInt rfl (by omega) _ (i + j) _ rfl (HO4.out.alloc _) _ 1 [Value.int .i64 y] rfl (src_one _ _ _) (by simp [Value.oneCell']) (by omega) (by omega) (by have := HB4.out.size; simp; omega) ?_; intro v6 w6 ho6 hg6 hor6; have O6 := Lib.hid ho6; have M6 := Lib.hid ((HB4.out.drew.alloc HB4.out.size _).grown hg6 (by have := HB4.out.size; simp; omega) (fun k hk => (HO4.out.lt k hk).1)); clear ho6 hg6 hor6)
                  go_roundw
                  case rel =>
                    refine ⟨i, j + 1, X ++ [y], by omega, by omega, rfl, by go_num, ?_, by rw [← HX.out, HMR.out]; simp, M6.out⟩
                    rw [show i + (j + 1) = i + j + 1 from by omega]
                    simpa using O6.out
                  case measure => simp [intOf]; omega
      · obtain rfl : d = ms := by omega
        have hen := HPow.out (by omega)
        generalize rowW W d = R at *
        go_wp2
        go_loop [15, 16] (E5 R (2 * W.length - 2)) (fun _ i => 2 * W.length - 2 - (intOf i).toNat)
        case atStart => exact ⟨0, by omega, rfl, rfl⟩
        case round =>
          obtain ⟨k, hk, rfl, rfl⟩ := hrel
          have hsb := sum_bd HRb.out k (by omega)
          by_cases hlt : k < 2 * W.length - 2
          · have hltI : (k : Int) < 2 * (W.length : Int) - 2 := by omega
            obtain ⟨b, off, rfl, hblt⟩ := rd_some HRd.out (by omega)
            have q1 := rd_cell HRd.out (Below.refl _ _) (j := k) (by omega)
            have hxb := HRb.out (R.getD k 0) (by simp [show k < R.length by omega])
            have HS := Lib.hid (sum_snoc R k (by omega))
            generalize R.getD k 0 = x at *
            go_wp2
            go_round
            case rel => exact ⟨k + 1, by omega, by go_num, by rw [HS.out]⟩
            case measure => simp [intOf]; omega
          · obtain rfl : k = 2 * W.length - 2 := by omega
            have hltI : ¬ (((2 * W.length - 2 : Nat) : Int) < 2 * (W.length : Int) - 2) := by omega
            go_wp2
            go_ret
            refine ⟨?_, HBel.out⟩
            rw [HE.out]
            rfl
end Go.Proofs.Ytacidmamfkfipaa
