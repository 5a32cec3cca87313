/-
  The document's begins and Next, walked.
-/
import Derived.Test.YtacidmamfkfipaaNext
import Derived.Test.YtacidmamfkfipaaRef04
namespace Go.Proofs.Ytacidmamfkfipaa
open Go.RowKit
set_option linter.unusedVariables false

def begin1 (zs : List Int) (v : Int) (k i : Nat) : Bool := decide (0 < zs.getD i 0) && (decide ((k : Int) ≤ zs.getD i 0) && codeAt zs i / 2 ^ (zs.getD i 0 - k).toNat == v)
def Beg (zs : List Int) (v : Int) (k : Nat) (w : World) (iv : Value) (wr : World) : Prop :=
  ∃ i : Nat, i ≤ zs.length ∧ iv = .int .i64 i ∧ (∀ j, j < i → begin1 zs v k j = false) ∧ Below w.heap.size w wr
theorem beg_yes {zs : List Int} {v : Int} {k i : Nat} (hi : i < zs.length) (h : begin1 zs v k i = true) : beginsB zs v k = true := by
  unfold beginsB
  rw [List.any_eq_true]
  exact ⟨i, by simpa using hi, h⟩
theorem beg_no {zs : List Int} {v : Int} {k : Nat} (h : ∀ j, j < zs.length → begin1 zs v k j = false) : beginsB zs v k = false := by
  unfold beginsB
  rw [List.any_eq_false]
  intro i hi
  have h1 := h i (by simpa using hi)
  unfold begin1 at h1
  rw [h1]
  simp
theorem code_bd' {zs : List Int} (hok : countsOk zs = true) {i : Nat} (h : i < zs.length) : 0 ≤ codeAt zs i ∧ codeAt zs i ≤ 1000000000 := by
  unfold codeAt
  have h1 := okLen_of hok h
  have h2 := len_of hok
  split
  · have h3 := firstAt_bd' zs h2 (zs.getD i 0).toNat (by omega)
    have h4 := cnt_le (zs.take i) (zs.getD i 0).toNat
    have h5 : (zs.take i).length ≤ i := List.length_take_le _ _
    omega
  · omega

set_option maxHeartbeats 3200000 in
theorem begins_any (zs : List Int) (A C : Option Addr) (n c1 c2 : Nat) (v : Int) (k : Nat) (w : World) (ha : RdI .i64 w A n zs) (hc : RdI .i64 w C n (codesOf zs)) (hok : countsOk zs = true) (hk : k ≤ 100) :
    Calls Try.prog 38 #[.slice A n c1, .slice C n c2, .int .i64 v, .int .i64 k] w fun e w' => e = .returned (.bool (beginsB zs v k)) ∧ Below w.heap.size w w' := by
  have HA := Lib.hid ha
  have HC := Lib.hid hc
  have hl := Lib.hid ha.1
  have hn288 := len_of hok
  rw [ha.1] at hn288
  have HOk := Lib.hid hok
  clear ha hc hok
  go_enter Try.func38, Try.ntmps38
  go_wp2
  go_loopw [9] (Beg zs v k w) (fun i _ => n - (intOf i).toNat)
  case atStart => exact ⟨0, by omega, rfl, fun j hj => by omega, Below.refl _ _⟩
  case round =>
    obtain ⟨i, hi, rfl, hno, hbel⟩ := hrel
    have HNo := Lib.hid hno
    have HBel := Lib.hid hbel
    clear hno hbel
    rw [hl.out] at hi
    by_cases hlt : i < n
    · have hltI : (i : Int) < n := by omega
      have hil : i < zs.length := by have := hl.out; omega
      obtain ⟨b, off, rfl, _, hca⟩ := HA.out.cell HBel.out hlt
      obtain ⟨b', off', rfl, _, hcc⟩ := HC.out.cell HBel.out hlt
      have ec : (codesOf zs).getD i 0 = codeAt zs i := by simp [codesOf, hil]
      rw [ec] at hcc
      clear ec
      have hz := okLen_of HOk.out hil
      have hcb := code_bd' HOk.out hil
      have HB1 : Hid (begin1 zs v k i = (decide (0 < zs.getD i 0) && (decide ((k : Int) ≤ zs.getD i 0) && codeAt zs i / 2 ^ (zs.getD i 0 - k).toNat == v))) := rfl
      generalize zs.getD i 0 = z at *
      generalize codeAt zs i = x at *
      by_cases hpos : 0 < z
      · have d1 : decide (0 < z) = true := by simpa using hpos
        rw [d1, Bool.true_and] at HB1
        by_cases hkz : (k : Int) ≤ z
        · have d2 : decide ((k : Int) ≤ z) = true := by simpa using hkz
          rw [d2, Bool.true_and] at HB1
          obtain ⟨s, hs⟩ : ∃ s : Nat, z - k = s := ⟨(z - k).toNat, by omega⟩
          rw [hs, Int.toNat_natCast] at HB1
          have hsh : x / 2 ^ min (IntKind.u64.wrap (s : Int)).toNat 64 = x / 2 ^ s := by
            rw [IntKind.wrap_u64, show ((s : Int) % 18446744073709551616).toNat = s from by omega, Nat.min_eq_left (by omega)]
          generalize x / 2 ^ s = y at *
          cases hq : (y == v) with
          | true =>
            rw [hq] at HB1
            go_wp2
            refine wp_region_qs (fun _ w' => w'.cell? ⟨b, off + i, none⟩ = some (.int .i64 z) ∧ w'.cell? ⟨b', off' + i, none⟩ = some (.int .i64 x)) [(0, some 0), (1, some 0), (2, some 0), (3, some 0), (4, some 0), (5, some 0), (6, some 0), (7, some 0), (8, some 0), (9, some 0), (10, some 0), (11, some 0), (12, some 0), (13, some 0), (14, some 0), (15, some 0), (16, some 0), (17, some 0), (18, some 0), (19, some 0), (20, some 0), (21, some 0), (22, some 0), (23, some 0), (24, some 0), (25, some 0), (26, some 0), (27, some 0), (28, some 0)] (by kernel_rfl) (by kernel_rfl) (by kernel_rfl) (by kernel_rfl) (by kernel_rfl) (fun _ _ _ _ _ h => h) ⟨hca, hcc⟩ ?_
            simp only [List.map_cons, List.map_nil, List.getD_cons_succ, List.getD_cons_zero]
            (repeat (first | (refine qs_now (v := ?_) (by rfl) ?_ ?_; rotate_left 1; (· (intro w' hS; go_simp; (try (simp only [↓IntWalk.iteOmega]; go_simp)); (try simp (disch := omega) only [IntWalk.i64_in]); try with_reducible rfl)); simp only [Act.put, List.setIfInBounds_toArray, List.set_cons_zero, List.set_cons_succ]) | (refine qs_run (v := ?_) (by rfl) ?_ ?_; rotate_left 1; (· (intro j w' hS; go_simp; (try (simp only [↓IntWalk.iteOmega]; go_simp)); (try simp (disch := omega) only [IntWalk.i64_in]); try with_reducible rfl)); simp only [Act.put, List.setIfInBounds_toArray, List.set_cons_zero, List.set_cons_succ]) | (refine qs_skip (by rfl) ?_; simp only [Act.put, List.setIfInBounds_toArray, List.set_cons_zero, List.set_cons_succ])))
            refine qs_nil ?_
            go_wp2
            go_ret
            exact ⟨ret_bool (beg_yes hil HB1.out), HBel.out.drew⟩
          | false =>
            rw [hq] at HB1
            go_wp2
            refine wp_region_qs (fun _ w' => w'.cell? ⟨b, off + i, none⟩ = some (.int .i64 z) ∧ w'.cell? ⟨b', off' + i, none⟩ = some (.int .i64 x)) [(0, some 0), (1, some 0), (2, some 0), (3, some 0), (4, some 0), (5, some 0), (6, some 0), (7, some 0), (8, some 0), (9, some 0), (10, some 0), (11, some 0), (12, some 0), (13, some 0), (14, some 0), (15, some 0), (16, some 0), (17, some 0), (18, some 0), (19, some 0), (20, some 0), (21, some 0), (22, some 0), (23, some 0), (24, some 0), (25, some 0), (26, some 0), (27, some 0), (28, some 0)] (by kernel_rfl) (by kernel_rfl) (by kernel_rfl) (by kernel_rfl) (by kernel_rfl) (fun _ _ _ _ _ h => h) ⟨hca, hcc⟩ ?_
            simp only [List.map_cons, List.map_nil, List.getD_cons_succ, List.getD_cons_zero]
            (repeat (first | (refine qs_now (v := ?_) (by rfl) ?_ ?_; rotate_left 1; (· (intro w' hS; go_simp; (try (simp only [↓IntWalk.iteOmega]; go_simp)); (try simp (disch := omega) only [IntWalk.i64_in]); try with_reducible rfl)); simp only [Act.put, List.setIfInBounds_toArray, List.set_cons_zero, List.set_cons_succ]) | (refine qs_run (v := ?_) (by rfl) ?_ ?_; rotate_left 1; (· (intro j w' hS; go_simp; (try (simp only [↓IntWalk.iteOmega]; go_simp)); (try simp (disch := omega) only [IntWalk.i64_in]); try with_reducible rfl)); simp only [Act.put, List.setIfInBounds_toArray, List.set_cons_zero, List.set_cons_succ]) | (refine qs_skip (by rfl) ?_; simp only [Act.put, List.setIfInBounds_toArray, List.set_cons_zero, List.set_cons_succ])))
            refine qs_nil ?_
            go_wp2
            go_roundw
            case rel =>
              refine ⟨i + 1, by omega, by go_num, fun j hj => ?_, HBel.out.drew⟩
              by_cases hji : j = i
              · subst hji; exact HB1.out
              · exact HNo.out j (by omega)
            case measure => simp [intOf]; omega
        · have d2 : decide ((k : Int) ≤ z) = false := by simpa using hkz
          rw [d2, Bool.false_and] at HB1
          go_wp2
          refine wp_region_qs (fun _ w' => w'.cell? ⟨b, off + i, none⟩ = some (.int .i64 z) ∧ w'.cell? ⟨b', off' + i, none⟩ = some (.int .i64 x)) [(0, some 0), (1, some 0), (2, some 0), (3, some 0), (4, some 0), (5, some 0), (6, some 0), (7, some 0), (8, some 0), (9, some 0), (10, some 0), (11, some 0), (12, some 0), (13, some 0), (14, some 0), (15, some 0), (16, some 0), (17, some 0), (18, some 0), (19, some 0), (20, some 0), (21, some 0), (22, some 0), (23, some 0), (24, some 0), (25, some 0), (26, some 0), (27, some 0), (28, some 0)] (by kernel_rfl) (by kernel_rfl) (by kernel_rfl) (by kernel_rfl) (by kernel_rfl) (fun _ _ _ _ _ h => h) ⟨hca, hcc⟩ ?_
          simp only [List.map_cons, List.map_nil, List.getD_cons_succ, List.getD_cons_zero]
          (repeat (first | (refine qs_now (v := ?_) (by rfl) ?_ ?_; rotate_left 1; (· (intro w' hS; go_simp; (try (simp only [↓IntWalk.iteOmega]; go_simp)); (try simp (disch := omega) only [IntWalk.i64_in]); try with_reducible rfl)); simp only [Act.put, List.setIfInBounds_toArray, List.set_cons_zero, List.set_cons_succ]) | (refine qs_run (v := ?_) (by rfl) ?_ ?_; rotate_left 1; (· (intro j w' hS; go_simp; (try (simp only [↓IntWalk.iteOmega]; go_simp)); (try simp (disch := omega) only [IntWalk.i64_in]); try with_reducible rfl)); simp only [Act.put, List.setIfInBounds_toArray, List.set_cons_zero, List.set_cons_succ]) | (refine qs_skip (by rfl) ?_; simp only [Act.put, List.setIfInBounds_toArray, List.set_cons_zero, List.set_cons_succ])))
          refine qs_nil ?_
          go_wp2
          go_roundw
          case rel =>
            refine ⟨i + 1, by omega, by go_num, fun j hj => ?_, HBel.out.drew⟩
            by_cases hji : j = i
            · subst hji; exact HB1.out
            · exact HNo.out j (by omega)
          case measure => simp [intOf]; omega
      · have d1 : decide (0 < z) = false := by simpa using hpos
        rw [d1, Bool.false_and] at HB1
        go_wp2
        refine wp_region_qs (fun _ w' => w'.cell? ⟨b, off + i, none⟩ = some (.int .i64 z) ∧ w'.cell? ⟨b', off' + i, none⟩ = some (.int .i64 x)) [(0, some 0), (1, some 0), (2, some 0), (3, some 0), (4, some 0), (5, some 0), (6, some 0), (7, some 0), (8, some 0), (9, some 0), (10, some 0), (11, some 0), (12, some 0), (13, some 0), (14, some 0), (15, some 0), (16, some 0), (17, some 0), (18, some 0), (19, some 0), (20, some 0), (21, some 0), (22, some 0), (23, some 0), (24, some 0), (25, some 0), (26, some 0), (27, some 0), (28, some 0)] (by kernel_rfl) (by kernel_rfl) (by kernel_rfl) (by kernel_rfl) (by kernel_rfl) (fun _ _ _ _ _ h => h) ⟨hca, hcc⟩ ?_
        simp only [List.map_cons, List.map_nil, List.getD_cons_succ, List.getD_cons_zero]
        (repeat (first | (refine qs_now (v := ?_) (by rfl) ?_ ?_; rotate_left 1; (· (intro w' hS; go_simp; (try (simp only [↓IntWalk.iteOmega]; go_simp)); (try simp (disch := omega) only [IntWalk.i64_in]); try with_reducible rfl)); simp only [Act.put, List.setIfInBounds_toArray, List.set_cons_zero, List.set_cons_succ]) | (refine qs_run (v := ?_) (by rfl) ?_ ?_; rotate_left 1; (· (intro j w' hS; go_simp; (try (simp only [↓IntWalk.iteOmega]; go_simp)); (try simp (disch := omega) only [IntWalk.i64_in]); try with_reducible rfl)); simp only [Act.put, List.setIfInBounds_toArray, List.set_cons_zero, List.set_cons_succ]) | (refine qs_skip (by rfl) ?_; simp only [Act.put, List.setIfInBounds_toArray, List.set_cons_zero, List.set_cons_succ])))
        refine qs_nil ?_
        go_wp2
        go_roundw
        case rel =>
          refine ⟨i + 1, by omega, by go_num, fun j hj => ?_, HBel.out.drew⟩
          by_cases hji : j = i
          · subst hji; exact HB1.out
          · exact HNo.out j (by omega)
        case measure => simp [intOf]; omega
    · obtain rfl : i = n := by omega
      go_wp2
      go_ret
      exact ⟨ret_bool (beg_no (fun j hj => HNo.out j (by rw [← hl.out]; exact hj))), HBel.out⟩
theorem begins_le {zs : List Int} {v : Int} {k : Nat} (hok : countsOk zs = true) (h : beginsB zs v k = true) : k ≤ 15 := by
  unfold beginsB at h
  rw [List.any_eq_true] at h
  obtain ⟨i, hi, hp⟩ := h
  simp only [Bool.and_eq_true, decide_eq_true_eq] at hp
  have := okLen_of hok (k := i) (by simpa using hi)
  omega
def find1 (zs : List Int) (v : Int) (k i : Nat) : Bool := decide (0 < k) && (zs.getD i 0 == (k : Int) && codeAt zs i == v)
theorem find_some {zs : List Int} {v : Int} {k i : Nat} (hi : i < zs.length) (h : find1 zs v k i = true) (hn : ∀ j, j < i → find1 zs v k j = false) : findB zs v k = some i := by
  unfold findB
  rw [List.find?_range_eq_some]
  exact ⟨h, by simpa using hi, fun j hj => by have := hn j hj; unfold find1 at this; rw [this]; rfl⟩
theorem find_none {zs : List Int} {v : Int} {k : Nat} (hn : ∀ j, j < zs.length → find1 zs v k j = false) : findB zs v k = none := by
  unfold findB
  rw [List.find?_eq_none]
  intro i hi
  have := hn i (by simpa using hi)
  unfold find1 at this
  rw [this]
  simp
def RNextPost (zs bt : List Int) (w : World) (e : Ending) (w' : World) : Prop :=
  e = .returned (.tuple #[.int .i64 ((refNext zs bt).1.getD 0), .int .i64 (refNext zs bt).2, .bool (refNext zs bt).1.isSome]) ∧ Below w.heap.size w w'
def RN1 (zs bt : List Int) (w : World) (v n : Value) (wr : World) : Prop :=
  ∃ k : Nat, k ≤ 16 ∧ k ≤ bt.length ∧ n = .int .i64 k ∧ v = .int .i64 (codeB bt k) ∧ refNext zs bt = refGo zs bt (17 - k) k ∧ Below w.heap.size w wr
def RN2 (zs bt : List Int) (k : Nat) (iv : Value) : Prop :=
  ∃ i : Nat, i ≤ zs.length ∧ iv = .int .i64 i ∧ (∀ j, j < i → find1 zs (codeB bt k) k j = false)

set_option maxHeartbeats 3200000 in
theorem rnext_any (zs bt : List Int) (A B : Option Addr) (n m c1 c2 : Nat) (w : World) (ha : RdI .i64 w A n zs) (hb : RdI .i64 w B m bt) (hok : countsOk zs = true) (h01 : Bit01 bt) (hm : m ≤ 1000000000) :
    Calls Try.prog 25 #[.slice A n c1, .slice B m c2] w (RNextPost zs bt w) := by
  have HA := Lib.hid ha
  have HB := Lib.hid hb
  have hl := Lib.hid ha.1
  have hlb := Lib.hid hb.1
  have hn288 := len_of hok
  rw [ha.1] at hn288
  have HOk := Lib.hid hok
  have H01 := Lib.hid h01
  clear ha hb hok h01
  go_enter Try.func25, Try.ntmps25
  go_wp2_with fail
  refine (rcodes_any zs A n c1 w HA.out (by omega)).mono ?_
  rintro e w1 (⟨hbad, _⟩ | ⟨_, C, c3, rfl, ho, hb1⟩)
  · rw [HOk.out] at hbad; cases hbad
  have HC := Lib.hid (RdI.of_own ho)
  have HB1 := Lib.hid hb1
  clear ho hb1
  go_wp2
  go_loopw [9, 10] (RN1 zs bt w1) (fun _ k _ => 20 - (intOf k).toNat)
  case atStart => exact ⟨0, by omega, by omega, rfl, rfl, rfl, Below.refl _ _⟩
  case round =>
    obtain ⟨k, hk, hkb, rfl, rfl, hr, hbel⟩ := hrel
    have HRN := Lib.hid hr
    have HBel := Lib.hid hbel
    clear hr hbel
    go_wp2_with fail
    refine (begins_any zs A C n c1 c3 (codeB bt k) k wr ((HA.out.below HB1.out).below HBel.out) (HC.out.below HBel.out) HOk.out (by omega)).mono ?_
    rintro e w2 ⟨rfl, hb2⟩
    have HB2 := Lib.hid (below_chain HBel.out hb2)
    clear hb2
    cases hbg : beginsB zs (codeB bt k) k with
    | false =>
      have HBg := Lib.hid hbg
      clear hbg
      go_wp2
      go_ret3
      have e : refNext zs bt = (none, k) := by
        rw [HRN.out, show 17 - k = (16 - k) + 1 from by omega, refGo, HBg.out]; rfl
      unfold RNextPost
      rw [e]
      exact ⟨rfl, below_chain HB1.out HB2.out⟩
    | true =>
      have HBg := Lib.hid hbg
      have hk15 := begins_le HOk.out hbg
      clear hbg
      have hcv := codeB_bd H01.out k
      have hpw := (pow_bd k hk15).2
      go_wp2
      go_loop [11] (RN2 zs bt k) (fun i => n - (intOf i).toNat)
      case atStart => exact ⟨0, by omega, rfl, fun j hj => by omega⟩
      case round =>
        obtain ⟨i, hi, rfl, hno⟩ := hrel
        have HNo := Lib.hid hno
        clear hno
        rw [hl.out] at hi
        by_cases hlt : i < n
        · have hltI : (i : Int) < n := by omega
          have hil : i < zs.length := by have := hl.out; omega
          obtain ⟨b, off, rfl, _, hca⟩ := (HA.out.below HB1.out).cell HB2.out hlt
          obtain ⟨b', off', rfl, _, hcc⟩ := HC.out.cell HB2.out hlt
          have ec : (codesOf zs).getD i 0 = codeAt zs i := by simp [codesOf, hil]
          rw [ec] at hcc
          clear ec
          have hz := okLen_of HOk.out hil
          have HF : Hid (find1 zs (codeB bt k) k i = (decide (0 < k) && (zs.getD i 0 == (k : Int) && codeAt zs i == codeB bt k))) := rfl
          generalize zs.getD i 0 = z at *
          generalize codeAt zs i = x at *
          by_cases hk0 : 0 < k
          · have hk0I : (0 : Int) < k := by omega
            rw [decide_eq_true hk0, Bool.true_and] at HF
            cases hq1 : (z == (k : Int)) with
            | true =>
              rw [hq1, Bool.true_and] at HF
              cases hq2 : (x == codeB bt k) with
              | true =>
                rw [hq2] at HF
                go_wp2
                go_ret3
                have e : refNext zs bt = (some (i : Int), k) := by
                  rw [HRN.out, show 17 - k = (16 - k) + 1 from by omega, refGo, HBg.out, if_pos rfl, find_some hil HF.out HNo.out]
                unfold RNextPost
                rw [e]
                exact ⟨rfl, below_chain HB1.out HB2.out⟩
              | false =>
                rw [hq2] at HF
                go_wp2
                go_round
                case rel =>
                  refine ⟨i + 1, by have := hl.out; omega, by go_num, fun j hj => ?_⟩
                  by_cases hji : j = i
                  · subst hji; exact HF.out
                  · exact HNo.out j (by omega)
                case measure => simp [intOf]; omega
            | false =>
              rw [hq1, Bool.false_and] at HF
              go_wp2
              go_round
              case rel =>
                refine ⟨i + 1, by have := hl.out; omega, by go_num, fun j hj => ?_⟩
                by_cases hji : j = i
                · subst hji; exact HF.out
                · exact HNo.out j (by omega)
              case measure => simp [intOf]; omega
          · have hk0I : ¬ (0 : Int) < k := by omega
            rw [decide_eq_false hk0, Bool.false_and] at HF
            go_wp2
            go_round
            case rel =>
              refine ⟨i + 1, by have := hl.out; omega, by go_num, fun j hj => ?_⟩
              by_cases hji : j = i
              · subst hji; exact HF.out
              · exact HNo.out j (by omega)
            case measure => simp [intOf]; omega
        · obtain rfl : i = n := by omega
          have HFN := Lib.hid (find_none (zs := zs) (v := codeB bt k) (k := k) (fun j hj => HNo.out j (by rw [← hl.out]; exact hj)))
          by_cases hend : k < m
          · have hendI : (k : Int) < m := by omega
            have hendI' : ¬ (m : Int) ≤ k := by omega
            obtain ⟨b, off, rfl, _, hcb⟩ := (HB.out.below HB1.out).cell HB2.out hend
            have hbit := (codeB_bd H01.out (k + 1))
            rw [codeB] at hbit
            have hpw2 := (pow_bd k hk15).2
            rw [Int.pow_succ] at hbit
            have HCB : Hid (codeB bt (k + 1) = 2 * codeB bt k + bt.getD k 0) := rfl
            generalize bt.getD k 0 = z at *
            go_wp2
            go_roundw
            case rel =>
              refine ⟨k + 1, by omega, by rw [hlb.out]; omega, by go_num, by rw [HCB.out], ?_, HB2.out⟩
              rw [HRN.out, show 17 - k = (17 - (k + 1)) + 1 from by omega, refGo, HBg.out, if_pos rfl, HFN.out]
              simp only
              rw [if_pos (by rw [hlb.out]; exact hend)]
            case measure => simp [intOf]; omega
          · have hendI : (m : Int) ≤ k := by omega
            go_wp2
            go_ret3
            have e : refNext zs bt = (none, k) := by
              rw [HRN.out, show 17 - k = (16 - k) + 1 from by omega, refGo, HBg.out, if_pos rfl, HFN.out]
              simp only
              rw [if_neg (by rw [hlb.out]; exact hend)]
            unfold RNextPost
            rw [e]
            exact ⟨rfl, below_chain HB1.out HB2.out⟩
end Go.Proofs.Ytacidmamfkfipaa
