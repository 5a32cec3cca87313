/-
  symMerge of the stable sort, walked at packs.
-/
import Derived.Test.YtlhaehefhhcgaaaDoorRotate
namespace Go.Proofs.YtlhaehefhhcgaaaDoor
open Go.RowKit
set_option linter.unusedVariables false

def MergedPost (x u v y : List PV) (w : World) (g n cap : Nat) (e : Ending) (w' : World) : Prop :=
  e = .returned (.tuple #[]) ∧ ∃ t, Srt t ∧ StEq (u ++ v) t ∧ PRow w' g n cap (x ++ t ++ y) ∧ w.grownBy w' (some g)
theorem mem_seg {α : Type} {x s y : List α} {i : Nat} {p : α} (h : (x ++ s ++ y)[i]? = some p) (h1 : x.length ≤ i) (h2 : i < x.length + s.length) : p ∈ s := by
  rw [List.append_assoc, List.getElem?_append_right h1, List.getElem?_append_left (by omega)] at h
  exact List.mem_of_getElem? h
/-- A search by halves in a row that stays. -/
def SS (P : Nat → Bool) (L : List PV) (s0 r0 : Nat) (w : World) (g n cap : Nat) (iv jv : Value) (wr : World) : Prop :=
  ∃ st r : Nat, iv = .int .i64 st ∧ jv = .int .i64 r ∧ Bs P s0 r0 st r ∧ PRow wr g n cap L ∧ w.grownBy wr (some g)
def SK (x v y : List PV) (e : PV) (a lo hi : Nat) (w : World) (g n cap : Nat) (kv : Value) (wr : World) : Prop :=
  ∃ k : Nat, lo ≤ k ∧ k ≤ hi ∧ kv = .int .i64 k ∧ PRow wr g n cap (x ++ v.take (k - a) ++ e :: (v.drop (k - a) ++ y)) ∧ w.grownBy wr (some g)
theorem half {st r : Nat} (h : st < r) : st ≤ (st + r) / 2 ∧ (st + r) / 2 < r := by omega

set_option maxRecDepth 100000 in
set_option maxHeartbeats 3200000 in
theorem sym_left (x v y : List PV) (e : PV) (w : World) (g n cap a m b : Nat) (hrow : PRow w g n cap (x ++ [e] ++ (v ++ y))) (ha : a = x.length) (hm : m = a + 1) (hb : b = m + v.length) (hv : Srt v) (hn : n ≤ 35184372088832) (hsm : ∀ p ∈ [e] ++ v, Small p.1) :
    Calls Tryd.prog 128 #[.slice (some ⟨g, 0, none⟩) n cap, .int .i64 a, .int .i64 m, .int .i64 b, .func (.func 116) #[] #[]] w (MergedPost x [e] v y w g n cap) := by
  have hlen := hrow.len
  simp only [List.length_append, List.length_singleton] at hlen
  have hbn : b ≤ n := by omega
  have hmb : m ≤ b := by omega
  have h1 : (m : Int) - a = 1 := by omega
  have hA : (x ++ [e] ++ (v ++ y))[a]? = some e := by rw [ha]; simp
  have HE := Lib.hid hA
  have HRow := Lib.hid hrow
  have HA := Lib.hid ha
  have HM := Lib.hid hm
  have HB := Lib.hid hb
  have HV := Lib.hid hv
  have HS := Lib.hid hsm
  have HLen := Lib.hid hlen
  have hmon : Mon (fun h => decide (keyAt (x ++ [e] ++ (v ++ y)) h < e.1)) m b := by
    intro c d h1 h2 h3 h4
    simp only [decide_eq_true_eq] at h4 ⊢
    have e1 : x ++ [e] ++ (v ++ y) = (x ++ [e]) ++ v ++ y := by simp
    have := key_mono (x := x ++ [e]) (u := v) (r := y) hv (i := c) (j := d) (by simp; omega) h2 (by simp; omega)
    rw [← e1] at this
    omega
  have HMon := Lib.hid hmon
  have ham : a < m := by omega
  have hse : Small e.1 := hsm e (by simp)
  have HSE := Lib.hid hse
  unfold Small at hse
  clear hlen hrow ha hm hb hv hsm hmon hA
  go_enter Tryd.func128, Tryd.ntmps128
  go_wp2
  clear h1
  go_loopw [10, 11] (SS (fun h => decide (keyAt (x ++ [e] ++ (v ++ y)) h < e.1)) (x ++ [e] ++ (v ++ y)) m b w g n cap) (fun i j _ => (intOf j).toNat - (intOf i).toNat)
  case atStart => exact ⟨m, b, rfl, rfl, bs_start hmb, HRow.out, World.grownBy.refl _ _⟩
  case round =>
    obtain ⟨st, r, rfl, rfl, hbs, hr, hg⟩ := hrel
    have HBs := Lib.hid hbs
    have HR := Lib.hid hr
    have HG := Lib.hid hg
    obtain ⟨hb1, hb2, hb3, _, _⟩ := hbs
    clear hr hg
    by_cases hlt : st < r
    · have hltI : (st : Int) < r := by omega
      obtain ⟨hh1, hh2⟩ := half hlt
      obtain ⟨h, hh⟩ : ∃ h, h = (st + r) / 2 := ⟨_, rfl⟩
      rw [← hh] at hh1 hh2
      have hhI : ((st : Int) + r) / 2 = h := by omega
      have hhn : h < n := by omega
      have hhnI : (h : Int) < n := by omega
      have haI : (a : Int) < n := by omega
      clear hh
      obtain ⟨p, hp⟩ : ∃ p, (x ++ [e] ++ (v ++ y))[h]? = some p := ⟨_, List.getElem?_eq_getElem (by rw [HR.out.len]; exact hhn)⟩
      have HP := Lib.hid hp
      have hps : Small p.1 := HS.out p (by
        have e1 : x ++ [e] ++ (v ++ y) = x ++ ([e] ++ v) ++ y := by simp
        rw [e1] at hp
        have h2 := HA.out
        have h3 := HM.out
        have h4 := HB.out
        exact mem_seg hp (by omega) (by simp; omega))
      have HPS := Lib.hid hps
      unfold Small at hps
      obtain ⟨c1, c2⟩ := HR.out.at_ hp
      obtain ⟨d1, d2⟩ := HR.out.at_ HE.out
      clear hp
      by_cases hcmp : p.1 < e.1
      · have hdc : decide (p.1 - e.1 < 0) = true := by simp; omega
        go_wp2
        refine wp_region_qs (fun k w' => k = 0 → w'.cell? ⟨g, h * 2, none⟩ = some (.int .i64 p.1) ∧ w'.cell? ⟨g, h * 2 + 1, none⟩ = some p.2 ∧ w'.cell? ⟨g, a * 2, none⟩ = some (.int .i64 e.1) ∧ w'.cell? ⟨g, a * 2 + 1, none⟩ = some e.2)
          [(0, some 0), (1, some 1), (2, some 1), (3, some 1), (4, some 0), (5, some 1), (6, some 1), (7, some 1), (8, some 0), (9, none), (10, some 1)] (by kernel_rfl) (by kernel_rfl) (by kernel_rfl) (by kernel_rfl) (by kernel_rfl) (fun _ _ _ _ _ h => h) (fun _ => ⟨c1, c2, d1, d2⟩) ?_
        simp only [List.map_cons, List.map_nil, List.getD_cons_succ, List.getD_cons_zero]
        (repeat (first | (refine qs_now (v := ?_) (by rfl) ?_ ?_; rotate_left 1; (· (intro w' hS; go_simp; (try (simp only [↓IntWalk.iteOmega]; go_simp)); (try simp (disch := omega) only [IntWalk.i64_in]); try with_reducible rfl)); simp only [Act.put, List.setIfInBounds_toArray, List.set_cons_zero, List.set_cons_succ]) | (refine qs_run (v := ?_) (by rfl) ?_ ?_; rotate_left 1; (· (intro j w' hS; go_simp; (try (simp only [↓IntWalk.iteOmega]; go_simp)); (try simp (disch := omega) only [IntWalk.i64_in]); try with_reducible rfl)); simp only [Act.put, List.setIfInBounds_toArray, List.set_cons_zero, List.set_cons_succ]) | (refine qs_skip (by rfl) ?_; simp only [Act.put, List.setIfInBounds_toArray, List.set_cons_zero, List.set_cons_succ])))
        refine qs_act ?_
        go_wp2_with (go_at_call 116; refine (cmp_any p.1 e.1 _ _ _ HPS.out HSE.out).mono ?_; rintro ev w1 ⟨rfl, hb1⟩)
        refine ⟨fun h => h.elim, ?_⟩
        (repeat (first | (refine qs_now (v := ?_) (by rfl) ?_ ?_; rotate_left 1; (· (intro w' hS; go_simp; (try (simp only [↓IntWalk.iteOmega]; go_simp)); (try simp (disch := omega) only [IntWalk.i64_in]); try with_reducible rfl)); simp only [Act.put, List.setIfInBounds_toArray, List.set_cons_zero, List.set_cons_succ]) | (refine qs_run (v := ?_) (by rfl) ?_ ?_; rotate_left 1; (· (intro j w' hS; go_simp; (try (simp only [↓IntWalk.iteOmega]; go_simp)); (try simp (disch := omega) only [IntWalk.i64_in]); try with_reducible rfl)); simp only [Act.put, List.setIfInBounds_toArray, List.set_cons_zero, List.set_cons_succ]) | (refine qs_skip (by rfl) ?_; simp only [Act.put, List.setIfInBounds_toArray, List.set_cons_zero, List.set_cons_succ])))
        refine qs_nil ?_
        clear c1 c2 d1 d2
        have HR1 := Lib.hid (HR.out.drew.grown hb1)
        have HG1 := Lib.hid (grown_below (grown_drew HG.out) hb1)
        clear hb1
        go_wp2
        go_roundw
        case rel => exact ⟨h + 1, r, by go_num, rfl, bs_yes HBs.out HMon.out hh1 hh2 (by simp only [decide_eq_true_eq]; rw [key_some HP.out]; omega), HR1.out, HG1.out⟩
        case measure => simp [intOf]; omega
      · have hdc : decide (p.1 - e.1 < 0) = false := by simp; omega
        go_wp2
        refine wp_region_qs (fun k w' => k = 0 → w'.cell? ⟨g, h * 2, none⟩ = some (.int .i64 p.1) ∧ w'.cell? ⟨g, h * 2 + 1, none⟩ = some p.2 ∧ w'.cell? ⟨g, a * 2, none⟩ = some (.int .i64 e.1) ∧ w'.cell? ⟨g, a * 2 + 1, none⟩ = some e.2)
          [(0, some 0), (1, some 1), (2, some 1), (3, some 1), (4, some 0), (5, some 1), (6, some 1), (7, some 1), (8, some 0), (9, none), (10, some 1)] (by kernel_rfl) (by kernel_rfl) (by kernel_rfl) (by kernel_rfl) (by kernel_rfl) (fun _ _ _ _ _ h => h) (fun _ => ⟨c1, c2, d1, d2⟩) ?_
        simp only [List.map_cons, List.map_nil, List.getD_cons_succ, List.getD_cons_zero]
        (repeat (first | (refine qs_now (v := ?_) (by rfl) ?_ ?_; rotate_left 1; (· (intro w' hS; go_simp; (try (simp only [↓IntWalk.iteOmega]; go_simp)); (try simp (disch := omega) only [IntWalk.i64_in]); try with_reducible rfl)); simp only [Act.put, List.setIfInBounds_toArray, List.set_cons_zero, List.set_cons_succ]) | (refine qs_run (v := ?_) (by rfl) ?_ ?_; rotate_left 1; (· (intro j w' hS; go_simp; (try (simp only [↓IntWalk.iteOmega]; go_simp)); (try simp (disch := omega) only [IntWalk.i64_in]); try with_reducible rfl)); simp only [Act.put, List.setIfInBounds_toArray, List.set_cons_zero, List.set_cons_succ]) | (refine qs_skip (by rfl) ?_; simp only [Act.put, List.setIfInBounds_toArray, List.set_cons_zero, List.set_cons_succ])))
        refine qs_act ?_
        go_wp2_with (go_at_call 116; refine (cmp_any p.1 e.1 _ _ _ HPS.out HSE.out).mono ?_; rintro ev w1 ⟨rfl, hb1⟩)
        refine ⟨fun h => h.elim, ?_⟩
        (repeat (first | (refine qs_now (v := ?_) (by rfl) ?_ ?_; rotate_left 1; (· (intro w' hS; go_simp; (try (simp only [↓IntWalk.iteOmega]; go_simp)); (try simp (disch := omega) only [IntWalk.i64_in]); try with_reducible rfl)); simp only [Act.put, List.setIfInBounds_toArray, List.set_cons_zero, List.set_cons_succ]) | (refine qs_run (v := ?_) (by rfl) ?_ ?_; rotate_left 1; (· (intro j w' hS; go_simp; (try (simp only [↓IntWalk.iteOmega]; go_simp)); (try simp (disch := omega) only [IntWalk.i64_in]); try with_reducible rfl)); simp only [Act.put, List.setIfInBounds_toArray, List.set_cons_zero, List.set_cons_succ]) | (refine qs_skip (by rfl) ?_; simp only [Act.put, List.setIfInBounds_toArray, List.set_cons_zero, List.set_cons_succ])))
        refine qs_nil ?_
        clear c1 c2 d1 d2
        have HR1 := Lib.hid (HR.out.drew.grown hb1)
        have HG1 := Lib.hid (grown_below (grown_drew HG.out) hb1)
        clear hb1
        go_wp2
        go_roundw
        case rel => exact ⟨st, h, rfl, rfl, bs_no HBs.out HMon.out hh1 hh2 (by simp only [decide_eq_false_iff_not]; rw [key_some HP.out]; omega), HR1.out, HG1.out⟩
        case measure => simp [intOf]; omega
    · have hltI : ¬ (st : Int) < r := by omega
      obtain rfl : st = r := by omega
      go_wp2
      go_loopw [13] (SK x v y e a a (st - 1) w g n cap) (fun k _ => n - (intOf k).toNat)
      case atStart => exact ⟨a, by omega, by omega, rfl, by simpa using HR.out, HG.out⟩
      case round =>
        clear HR HG
        obtain ⟨k, hk1, hk2, rfl, hr, hg⟩ := hrel
        have HG := Lib.hid hg
        by_cases hlt2 : k < st - 1
        · have hlt2I : (k : Int) < st - 1 := by omega
          obtain ⟨q, hq1, hq2⟩ := drop_at (l := v) (k := k - a) (by have := HB.out; have := HM.out; omega)
          have eL : x ++ v.take (k - a) ++ e :: (v.drop (k - a) ++ y) = (x ++ v.take (k - a)) ++ e :: ([] ++ q :: (v.drop (k - a + 1) ++ y)) := by rw [hq1]; simp
          have eR : (x ++ v.take (k - a)) ++ q :: ([] ++ e :: (v.drop (k - a + 1) ++ y)) = x ++ v.take (k + 1 - a) ++ e :: (v.drop (k + 1 - a) ++ y) := by rw [show k + 1 - a = k - a + 1 from by omega, hq2]; simp
          have l1 : k = (x ++ v.take (k - a)).length := by
            have h1 := HA.out
            have h2 := HB.out
            have h3 := HM.out
            simp; omega
          rw [eL] at hr
          generalize (x ++ v.take (k - a)) = l0 at *
          generalize (v.drop (k - a + 1) ++ y) = l4 at *
          obtain ⟨c1, c2⟩ := hr.at_ (at1 l0 _ e k l1)
          obtain ⟨d1, d2⟩ := hr.at_ (at2 l0 [] l4 e q (k + 1) (by simp; omega))
          have HR := Lib.hid hr
          have HEq := Lib.hid eR
          have HL1 := Lib.hid l1
          clear hr hg eL eR hq1 hq2 l1
          have i1 : (k : Int) < n := by omega
          have i2 : (k : Int) + 1 < n := by omega
          have t1 : ((k : Int) + 1).toNat = k + 1 := by omega
          go_wp2
          refine wp_region_qs (fun k' w' => k' = 0 → w'.cell? ⟨g, k * 2, none⟩ = some (.int .i64 e.1) ∧ w'.cell? ⟨g, k * 2 + 1, none⟩ = some e.2 ∧ w'.cell? ⟨g, (k + 1) * 2, none⟩ = some (.int .i64 q.1) ∧ w'.cell? ⟨g, (k + 1) * 2 + 1, none⟩ = some q.2)
            [(0, some 0), (1, some 0), (2, some 1), (3, some 1), (4, some 1), (5, some 0), (6, some 0), (7, some 0), (8, some 0), (9, some 0), (10, some 1), (11, some 1), (12, some 1), (13, some 0), (14, some 0), (15, none), (16, some 1), (17, none)] (by kernel_rfl) (by kernel_rfl) (by kernel_rfl) (by kernel_rfl) (by kernel_rfl) (fun _ _ _ _ _ h => h) (fun _ => ⟨c1, c2, d1, d2⟩) ?_
          simp only [List.map_cons, List.map_nil, List.getD_cons_succ, List.getD_cons_zero]
          (repeat (first | (refine qs_now (v := ?_) (by rfl) ?_ ?_; rotate_left 1; (· (intro w' hS; go_simp; (try (simp only [↓IntWalk.iteOmega]; go_simp)); (try simp (disch := omega) only [IntWalk.i64_in]); try with_reducible rfl)); simp only [Act.put, List.setIfInBounds_toArray, List.set_cons_zero, List.set_cons_succ]) | (refine qs_run (v := ?_) (by rfl) ?_ ?_; rotate_left 1; (· (intro j w' hS; go_simp; (try (simp only [↓IntWalk.iteOmega]; go_simp)); (try simp (disch := omega) only [IntWalk.i64_in]); try with_reducible rfl)); simp only [Act.put, List.setIfInBounds_toArray, List.set_cons_zero, List.set_cons_succ]) | (refine qs_skip (by rfl) ?_; simp only [Act.put, List.setIfInBounds_toArray, List.set_cons_zero, List.set_cons_succ])))
          have hone := HR.out.one
          have HONE := Lib.hid hone
          have hlen := HR.out.len
          have HLEN := Lib.hid hlen
          clear t1 hone hlen c1 c2 d1 d2
          refine qs_act ?_
          refine prow_store rfl (.tmp 75) (.tmp 70) rfl k q _ rfl rfl rfl HR.out.drew (by rw [HLEN.out]; omega) (HONE.out q (by simp)) ?_
          intro w2 hr2 hg2
          have HR2 := Lib.hid hr2
          have HG2 := Lib.hid ((grown_drew HG.out).trans hg2)
          clear hr2 hg2
          refine wpList_nil ?_
          refine ⟨fun h => (by cases h), ?_⟩
          (repeat (first | (refine qs_now (v := ?_) (by rfl) ?_ ?_; rotate_left 1; (· (intro w' hS; go_simp; (try (simp only [↓IntWalk.iteOmega]; go_simp)); (try simp (disch := omega) only [IntWalk.i64_in]); try with_reducible rfl)); simp only [Act.put, List.setIfInBounds_toArray, List.set_cons_zero, List.set_cons_succ]) | (refine qs_run (v := ?_) (by rfl) ?_ ?_; rotate_left 1; (· (intro j w' hS; go_simp; (try (simp only [↓IntWalk.iteOmega]; go_simp)); (try simp (disch := omega) only [IntWalk.i64_in]); try with_reducible rfl)); simp only [Act.put, List.setIfInBounds_toArray, List.set_cons_zero, List.set_cons_succ]) | (refine qs_skip (by rfl) ?_; simp only [Act.put, List.setIfInBounds_toArray, List.set_cons_zero, List.set_cons_succ])))
          refine qs_act ?_
          refine prow_store rfl (.tmp 76) (.tmp 74) rfl (k + 1) e _ rfl rfl rfl HR2.out (by rw [List.length_set, HLEN.out]; omega) (HONE.out e (by simp)) ?_
          intro w3 hr3 hg3
          have HR3 := Lib.hid hr3
          have HG3 := Lib.hid (HG2.out.trans hg3)
          clear hr3 hg3
          refine wpList_nil ?_
          refine ⟨fun h => (by cases h), ?_⟩
          refine qs_nil ?_
          go_wp2
          go_roundw
          case rel =>
            refine ⟨k + 1, by omega, by omega, by go_num, ?_, HG3.out⟩
            have := HR3.out
            rw [set2 l0 [] l4 e q _ _ HL1.out (by have := HL1.out; simp; omega), HEq.out] at this
            exact this
          case measure => simp [intOf]; omega
        · have hlt2I : ¬ (k : Int) < st - 1 := by omega
          obtain rfl : k = st - 1 := by omega
          have HR := Lib.hid hr
          clear hr hg
          go_wp2
          go_end0
          have e1 : x ++ [e] ++ (v ++ y) = (x ++ [e]) ++ v ++ y := by simp
          have h1 := HA.out
          have h2 := HM.out
          have h3 := HB.out
          obtain ⟨_, _, _, hB4, hB5⟩ := HBs.out
          obtain ⟨s1, s2⟩ := one_ahead (e := e) HV.out (k := st - 1 - a) (fun p hp => by
              obtain ⟨i, i1, i2, i3, i4⟩ := mem_take_place (x := x ++ [e]) (r := y) hp
              simp only [List.length_append, List.length_singleton] at i1 i2 i3
              have := hB4 i (by omega) (by omega)
              simp only [decide_eq_true_eq] at this
              rw [e1, i4] at this; exact this) (fun p hp => by
              obtain ⟨i, i1, i2, i3⟩ := mem_drop_place (x := x ++ [e]) (r := y) (by omega) hp
              simp only [List.length_append, List.length_singleton] at i1 i2
              have := hB5 i (by omega) (by omega)
              simp only [decide_eq_false_iff_not] at this
              rw [e1, i3] at this; omega)
          exact ⟨rfl, _, s1, s2, by simpa using HR.out, HG.out⟩

set_option maxRecDepth 100000 in
set_option maxHeartbeats 3200000 in
theorem sym_right (x u y : List PV) (e : PV) (w : World) (g n cap a m b : Nat) (hrow : PRow w g n cap (x ++ u ++ ([e] ++ y))) (ha : a = x.length) (hm : m = a + u.length) (hb : b = m + 1) (hu : Srt u) (hu2 : u.length ≠ 1) (hn : n ≤ 35184372088832) (hsm : ∀ p ∈ u ++ [e], Small p.1) :
    Calls Tryd.prog 128 #[.slice (some ⟨g, 0, none⟩) n cap, .int .i64 a, .int .i64 m, .int .i64 b, .func (.func 116) #[] #[]] w (MergedPost x u [e] y w g n cap) := by
  have hlen := hrow.len
  simp only [List.length_append, List.length_singleton] at hlen
  have hbn : b ≤ n := by omega
  have ham : a ≤ m := by omega
  have hmb : m < b := by omega
  have h0 : ((m : Int) - a == 1) = false := by simp; omega
  have h1 : (b : Int) - m = 1 := by omega
  have hA : (x ++ u ++ ([e] ++ y))[m]? = some e := by rw [hm, ha, ← List.length_append]; simp
  have HE := Lib.hid hA
  have HRow := Lib.hid hrow
  have HA := Lib.hid ha
  have HM := Lib.hid hm
  have HB := Lib.hid hb
  have HU := Lib.hid hu
  have HS := Lib.hid hsm
  have hmon : Mon (fun h => decide (keyAt (x ++ u ++ ([e] ++ y)) h ≤ e.1)) a m := by
    intro c d h1 h2 h3 h4
    simp only [decide_eq_true_eq] at h4 ⊢
    have := key_mono (x := x) (u := u) (r := [e] ++ y) hu (i := c) (j := d) (by omega) h2 (by omega)
    omega
  have HMon := Lib.hid hmon
  have hse : Small e.1 := hsm e (by simp)
  have HSE := Lib.hid hse
  unfold Small at hse
  clear hlen hrow ha hm hb hu hsm hmon hA hu2
  go_enter Tryd.func128, Tryd.ntmps128
  go_wp2
  clear h0 h1
  go_loopw [14, 15] (SS (fun h => decide (keyAt (x ++ u ++ ([e] ++ y)) h ≤ e.1)) (x ++ u ++ ([e] ++ y)) a m w g n cap) (fun i j _ => (intOf j).toNat - (intOf i).toNat)
  case atStart => exact ⟨a, m, rfl, rfl, bs_start ham, HRow.out, World.grownBy.refl _ _⟩
  case round =>
    obtain ⟨st, r, rfl, rfl, hbs, hr, hg⟩ := hrel
    have HBs := Lib.hid hbs
    have HR := Lib.hid hr
    have HG := Lib.hid hg
    obtain ⟨hb1, hb2, hb3, _, _⟩ := hbs
    clear hr hg
    by_cases hlt : st < r
    · have hltI : (st : Int) < r := by omega
      obtain ⟨hh1, hh2⟩ := half hlt
      obtain ⟨h, hh⟩ : ∃ h, h = (st + r) / 2 := ⟨_, rfl⟩
      rw [← hh] at hh1 hh2
      have hhI : ((st : Int) + r) / 2 = h := by omega
      have hhn : h < n := by omega
      have hhnI : (h : Int) < n := by omega
      have haI : (m : Int) < n := by omega
      clear hh
      obtain ⟨p, hp⟩ : ∃ p, (x ++ u ++ ([e] ++ y))[h]? = some p := ⟨_, List.getElem?_eq_getElem (by rw [HR.out.len]; exact hhn)⟩
      have HP := Lib.hid hp
      have hps : Small p.1 := HS.out p (by
        have h2 := HA.out
        have h3 := HM.out
        exact List.mem_append_left _ (mem_seg hp (by omega) (by omega)))
      have HPS := Lib.hid hps
      unfold Small at hps
      obtain ⟨c1, c2⟩ := HR.out.at_ hp
      obtain ⟨d1, d2⟩ := HR.out.at_ HE.out
      clear hp
      by_cases hcmp : e.1 < p.1
      · have hdc : decide (e.1 - p.1 < 0) = true := by simp; omega
        go_wp2
        refine wp_region_qs (fun k w' => k = 0 → w'.cell? ⟨g, h * 2, none⟩ = some (.int .i64 p.1) ∧ w'.cell? ⟨g, h * 2 + 1, none⟩ = some p.2 ∧ w'.cell? ⟨g, m * 2, none⟩ = some (.int .i64 e.1) ∧ w'.cell? ⟨g, m * 2 + 1, none⟩ = some e.2)
          [(0, some 0), (1, some 1), (2, some 1), (3, some 1), (4, some 0), (5, some 1), (6, some 1), (7, some 1), (8, some 0), (9, none), (10, some 1), (11, some 1)] (by kernel_rfl) (by kernel_rfl) (by kernel_rfl) (by kernel_rfl) (by kernel_rfl) (fun _ _ _ _ _ h => h) (fun _ => ⟨c1, c2, d1, d2⟩) ?_
        simp only [List.map_cons, List.map_nil, List.getD_cons_succ, List.getD_cons_zero]
        (repeat (first | (refine qs_now (v := ?_) (by rfl) ?_ ?_; rotate_left 1; (· (intro w' hS; go_simp; (try (simp only [↓IntWalk.iteOmega]; go_simp)); (try simp (disch := omega) only [IntWalk.i64_in]); try with_reducible rfl)); simp only [Act.put, List.setIfInBounds_toArray, List.set_cons_zero, List.set_cons_succ]) | (refine qs_run (v := ?_) (by rfl) ?_ ?_; rotate_left 1; (· (intro j w' hS; go_simp; (try (simp only [↓IntWalk.iteOmega]; go_simp)); (try simp (disch := omega) only [IntWalk.i64_in]); try with_reducible rfl)); simp only [Act.put, List.setIfInBounds_toArray, List.set_cons_zero, List.set_cons_succ]) | (refine qs_skip (by rfl) ?_; simp only [Act.put, List.setIfInBounds_toArray, List.set_cons_zero, List.set_cons_succ])))
        refine qs_act ?_
        go_wp2_with (go_at_call 116; refine (cmp_any e.1 p.1 _ _ _ HSE.out HPS.out).mono ?_; rintro ev w1 ⟨rfl, hb1⟩)
        refine ⟨fun h => h.elim, ?_⟩
        (repeat (first | (refine qs_now (v := ?_) (by rfl) ?_ ?_; rotate_left 1; (· (intro w' hS; go_simp; (try (simp only [↓IntWalk.iteOmega]; go_simp)); (try simp (disch := omega) only [IntWalk.i64_in]); try with_reducible rfl)); simp only [Act.put, List.setIfInBounds_toArray, List.set_cons_zero, List.set_cons_succ]) | (refine qs_run (v := ?_) (by rfl) ?_ ?_; rotate_left 1; (· (intro j w' hS; go_simp; (try (simp only [↓IntWalk.iteOmega]; go_simp)); (try simp (disch := omega) only [IntWalk.i64_in]); try with_reducible rfl)); simp only [Act.put, List.setIfInBounds_toArray, List.set_cons_zero, List.set_cons_succ]) | (refine qs_skip (by rfl) ?_; simp only [Act.put, List.setIfInBounds_toArray, List.set_cons_zero, List.set_cons_succ])))
        refine qs_nil ?_
        clear c1 c2 d1 d2
        have HR1 := Lib.hid (HR.out.drew.grown hb1)
        have HG1 := Lib.hid (grown_below (grown_drew HG.out) hb1)
        clear hb1
        go_wp2
        go_roundw
        case rel =>
          exact ⟨st, h, rfl, rfl, bs_no HBs.out HMon.out hh1 hh2 (by simp only [decide_eq_false_iff_not]; rw [key_some HP.out]; omega), HR1.out, HG1.out⟩
        case measure => simp [intOf]; omega
      · have hdc : decide (e.1 - p.1 < 0) = false := by simp; omega
        go_wp2
        refine wp_region_qs (fun k w' => k = 0 → w'.cell? ⟨g, h * 2, none⟩ = some (.int .i64 p.1) ∧ w'.cell? ⟨g, h * 2 + 1, none⟩ = some p.2 ∧ w'.cell? ⟨g, m * 2, none⟩ = some (.int .i64 e.1) ∧ w'.cell? ⟨g, m * 2 + 1, none⟩ = some e.2)
          [(0, some 0), (1, some 1), (2, some 1), (3, some 1), (4, some 0), (5, some 1), (6, some 1), (7, some 1), (8, some 0), (9, none), (10, some 1), (11, some 1)] (by kernel_rfl) (by kernel_rfl) (by kernel_rfl) (by kernel_rfl) (by kernel_rfl) (fun _ _ _ _ _ h => h) (fun _ => ⟨c1, c2, d1, d2⟩) ?_
        simp only [List.map_cons, List.map_nil, List.getD_cons_succ, List.getD_cons_zero]
        (repeat (first | (refine qs_now (v := ?_) (by rfl) ?_ ?_; rotate_left 1; (· (intro w' hS; go_simp; (try (simp only [↓IntWalk.iteOmega]; go_simp)); (try simp (disch := omega) only [IntWalk.i64_in]); try with_reducible rfl)); simp only [Act.put, List.setIfInBounds_toArray, List.set_cons_zero, List.set_cons_succ]) | (refine qs_run (v := ?_) (by rfl) ?_ ?_; rotate_left 1; (· (intro j w' hS; go_simp; (try (simp only [↓IntWalk.iteOmega]; go_simp)); (try simp (disch := omega) only [IntWalk.i64_in]); try with_reducible rfl)); simp only [Act.put, List.setIfInBounds_toArray, List.set_cons_zero, List.set_cons_succ]) | (refine qs_skip (by rfl) ?_; simp only [Act.put, List.setIfInBounds_toArray, List.set_cons_zero, List.set_cons_succ])))
        refine qs_act ?_
        go_wp2_with (go_at_call 116; refine (cmp_any e.1 p.1 _ _ _ HSE.out HPS.out).mono ?_; rintro ev w1 ⟨rfl, hb1⟩)
        refine ⟨fun h => h.elim, ?_⟩
        (repeat (first | (refine qs_now (v := ?_) (by rfl) ?_ ?_; rotate_left 1; (· (intro w' hS; go_simp; (try (simp only [↓IntWalk.iteOmega]; go_simp)); (try simp (disch := omega) only [IntWalk.i64_in]); try with_reducible rfl)); simp only [Act.put, List.setIfInBounds_toArray, List.set_cons_zero, List.set_cons_succ]) | (refine qs_run (v := ?_) (by rfl) ?_ ?_; rotate_left 1; (· (intro j w' hS; go_simp; (try (simp only [↓IntWalk.iteOmega]; go_simp)); (try simp (disch := omega) only [IntWalk.i64_in]); try with_reducible rfl)); simp only [Act.put, List.setIfInBounds_toArray, List.set_cons_zero, List.set_cons_succ]) | (refine qs_skip (by rfl) ?_; simp only [Act.put, List.setIfInBounds_toArray, List.set_cons_zero, List.set_cons_succ])))
        refine qs_nil ?_
        clear c1 c2 d1 d2
        have HR1 := Lib.hid (HR.out.drew.grown hb1)
        have HG1 := Lib.hid (grown_below (grown_drew HG.out) hb1)
        clear hb1
        go_wp2
        go_roundw
        case rel => exact ⟨h + 1, r, by go_num, rfl, bs_yes HBs.out HMon.out hh1 hh2 (by simp only [decide_eq_true_eq]; rw [key_some HP.out]; omega), HR1.out, HG1.out⟩
        case measure => simp [intOf]; omega
    · have hltI : ¬ (st : Int) < r := by omega
      obtain rfl : st = r := by omega
      go_wp2
      go_loopw [17] (SK x u y e a st m w g n cap) (fun k _ => (intOf k).toNat)
      case atStart =>
        refine ⟨m, by omega, by omega, rfl, ?_, HG.out⟩
        have h1 := HM.out
        rw [List.take_of_length_le (by omega), List.drop_of_length_le (by omega)]
        simpa using HR.out
      case round =>
        clear HR HG
        obtain ⟨k, hk1, hk2, rfl, hr, hg⟩ := hrel
        have HG := Lib.hid hg
        by_cases hlt2 : st < k
        · have hlt2I : (st : Int) < k := by omega
          obtain ⟨q, hq1, hq2⟩ := drop_at (l := u) (k := k - 1 - a) (by have := HM.out; omega)
          rw [show k - 1 - a + 1 = k - a from by omega] at hq1 hq2
          have eL : x ++ u.take (k - a) ++ e :: (u.drop (k - a) ++ y) = (x ++ u.take (k - 1 - a)) ++ q :: ([] ++ e :: (u.drop (k - a) ++ y)) := by rw [hq2]; simp
          have eR : (x ++ u.take (k - 1 - a)) ++ e :: ([] ++ q :: (u.drop (k - a) ++ y)) = x ++ u.take (k - 1 - a) ++ e :: (u.drop (k - 1 - a) ++ y) := by rw [hq1]; simp
          have l1 : k - 1 = (x ++ u.take (k - 1 - a)).length := by
            have h1 := HA.out
            have h2 := HM.out
            simp; omega
          rw [eL] at hr
          have HEq := Lib.hid eR
          obtain ⟨l0, hl0⟩ : ∃ l0, l0 = x ++ u.take (k - 1 - a) := ⟨_, rfl⟩
          rw [← hl0] at hr HEq l1
          have HL0 := Lib.hid hl0
          clear eL eR hl0
          generalize (u.drop (k - a) ++ y) = l4 at *
          obtain ⟨c1, c2⟩ := hr.at_ (at1 l0 _ q (k - 1) l1)
          obtain ⟨d1, d2⟩ := hr.at_ (at2 l0 [] l4 q e k (by simp; omega))
          have HR := Lib.hid hr
          have HL1 := Lib.hid l1
          clear hr hg hq1 hq2 l1
          have i1 : (k : Int) < n := by omega
          have i2 : (k : Int) - 1 < n := by omega
          have i3 : (1 : Int) ≤ k := by omega
          go_wp2
          refine wp_region_qs (fun k' w' => k' = 0 → w'.cell? ⟨g, (k - 1) * 2, none⟩ = some (.int .i64 q.1) ∧ w'.cell? ⟨g, (k - 1) * 2 + 1, none⟩ = some q.2 ∧ w'.cell? ⟨g, k * 2, none⟩ = some (.int .i64 e.1) ∧ w'.cell? ⟨g, k * 2 + 1, none⟩ = some e.2)
            [(0, some 0), (1, some 0), (2, some 1), (3, some 1), (4, some 1), (5, some 0), (6, some 0), (7, some 0), (8, some 0), (9, some 0), (10, some 1), (11, some 1), (12, some 1), (13, some 0), (14, some 0), (15, none), (16, some 1), (17, none)] (by kernel_rfl) (by kernel_rfl) (by kernel_rfl) (by kernel_rfl) (by kernel_rfl) (fun _ _ _ _ _ h => h) (fun _ => ⟨c1, c2, d1, d2⟩) ?_
          simp only [List.map_cons, List.map_nil, List.getD_cons_succ, List.getD_cons_zero]
          (repeat (first | (refine qs_now (v := ?_) (by rfl) ?_ ?_; rotate_left 1; (· (intro w' hS; go_simp; (try (simp only [↓IntWalk.iteOmega]; go_simp)); (try simp (disch := omega) only [IntWalk.i64_in]); try with_reducible rfl)); simp only [Act.put, List.setIfInBounds_toArray, List.set_cons_zero, List.set_cons_succ]) | (refine qs_run (v := ?_) (by rfl) ?_ ?_; rotate_left 1; (· (intro j w' hS; go_simp; (try (simp only [↓IntWalk.iteOmega]; go_simp)); (try simp (disch := omega) only [IntWalk.i64_in]); try with_reducible rfl)); simp only [Act.put, List.setIfInBounds_toArray, List.set_cons_zero, List.set_cons_succ]) | (refine qs_skip (by rfl) ?_; simp only [Act.put, List.setIfInBounds_toArray, List.set_cons_zero, List.set_cons_succ])))
          have hone := HR.out.one
          have HONE := Lib.hid hone
          have hlen := HR.out.len
          have HLEN := Lib.hid hlen
          clear hone hlen c1 c2 d1 d2
          refine qs_act ?_
          refine prow_store rfl (.tmp 127) (.tmp 122) rfl k q _ rfl rfl rfl HR.out.drew (by rw [HLEN.out]; omega) (HONE.out q (by simp)) ?_
          intro w2 hr2 hg2
          have HR2 := Lib.hid hr2
          have HG2 := Lib.hid ((grown_drew HG.out).trans hg2)
          clear hr2 hg2
          refine wpList_nil ?_
          refine ⟨fun h => (by cases h), ?_⟩
          (repeat (first | (refine qs_now (v := ?_) (by rfl) ?_ ?_; rotate_left 1; (· (intro w' hS; go_simp; (try (simp only [↓IntWalk.iteOmega]; go_simp)); (try simp (disch := omega) only [IntWalk.i64_in]); try with_reducible rfl)); simp only [Act.put, List.setIfInBounds_toArray, List.set_cons_zero, List.set_cons_succ]) | (refine qs_run (v := ?_) (by rfl) ?_ ?_; rotate_left 1; (· (intro j w' hS; go_simp; (try (simp only [↓IntWalk.iteOmega]; go_simp)); (try simp (disch := omega) only [IntWalk.i64_in]); try with_reducible rfl)); simp only [Act.put, List.setIfInBounds_toArray, List.set_cons_zero, List.set_cons_succ]) | (refine qs_skip (by rfl) ?_; simp only [Act.put, List.setIfInBounds_toArray, List.set_cons_zero, List.set_cons_succ])))
          refine qs_act ?_
          refine prow_store rfl (.tmp 128) (.tmp 126) rfl (k - 1) e _ rfl rfl rfl HR2.out (by rw [List.length_set, HLEN.out]; omega) (HONE.out e (by simp)) ?_
          intro w3 hr3 hg3
          have HR3 := Lib.hid hr3
          have HG3 := Lib.hid (HG2.out.trans hg3)
          clear hr3 hg3
          refine wpList_nil ?_
          refine ⟨fun h => (by cases h), ?_⟩
          refine qs_nil ?_
          go_wp2
          go_roundw
          case rel =>
            refine ⟨k - 1, by omega, by omega, by go_num, ?_, HG3.out⟩
            have := HR3.out
            rw [set2' l0 [] l4 q e _ _ HL1.out (by have := HL1.out; simp; omega)] at this
            rw [HEq.out, HL0.out] at this
            exact this
          case measure => simp [intOf]; omega
        · have hlt2I : ¬ (st : Int) < k := by omega
          obtain rfl : k = st := by omega
          have HR := Lib.hid hr
          clear hr hg
          go_wp2
          go_end0
          have h1 := HA.out
          have h2 := HM.out
          obtain ⟨_, _, _, hB4, hB5⟩ := HBs.out
          obtain ⟨s1, s2⟩ := one_behind (e := e) HU.out (k := k - a) (fun p hp => by
              obtain ⟨i, i1, i2, i3, i4⟩ := mem_take_place (x := x) (r := [e] ++ y) hp
              have := hB4 i (by omega) (by omega)
              simp only [decide_eq_true_eq] at this
              rw [i4] at this; exact this) (fun p hp => by
              obtain ⟨i, i1, i2, i3⟩ := mem_drop_place (x := x) (r := [e] ++ y) (by omega) hp
              have := hB5 i (by omega) (by omega)
              simp only [decide_eq_false_iff_not] at this
              rw [i3] at this; omega)
          exact ⟨rfl, _, s1, s2, by simpa using HR.out, HG.out⟩
end Go.Proofs.YtlhaehefhhcgaaaDoor
