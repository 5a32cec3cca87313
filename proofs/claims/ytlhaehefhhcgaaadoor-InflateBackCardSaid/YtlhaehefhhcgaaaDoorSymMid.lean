/-
  symMerge of the stable sort, walked at packs: the middle, and the whole by the number of elements.
-/
import Derived.Test.YtlhaehefhhcgaaaDoorSym
namespace Go.Proofs.YtlhaehefhhcgaaaDoor
open Go.RowKit
set_option linter.unusedVariables false
set_option linter.unusedSimpArgs false

/-- What is asked of rows that are shorter. -/
def SymSaid (N : Nat) : Prop := ∀ (x u v y : List PV) (w : World) (g n cap a m b : Nat), u.length + v.length ≤ N → 0 < u.length → 0 < v.length → Srt u → Srt v → PRow w g n cap (x ++ u ++ (v ++ y)) → a = x.length → m = a + u.length → b = m + v.length →
  n ≤ 35184372088832 → (∀ p ∈ u ++ v, Small p.1) →
  Calls Tryd.prog 128 #[.slice (some ⟨g, 0, none⟩) n cap, .int .i64 a, .int .i64 m, .int .i64 b, .func (.func 116) #[] #[]] w (MergedPost x u v y w g n cap)

theorem srt_one {u v : List PV} (hu : Srt u) (hv : Srt v) (h : u.length = 0 ∨ v.length = 0) : Srt (u ++ v) := by
  rcases h with h | h
  · rw [List.eq_nil_of_length_eq_zero h]; exact hv
  · rw [List.eq_nil_of_length_eq_zero h, List.append_nil]; exact hu
theorem srt_take {u : List PV} (hu : Srt u) (k : Nat) : Srt (u.take k) ∧ Srt (u.drop k) ∧ ∀ p ∈ u.take k, ∀ q ∈ u.drop k, p.1 ≤ q.1 := by
  have h : Srt (u.take k ++ u.drop k) := by rw [List.take_append_drop]; exact hu
  exact srt_append h
/-- The cuts of the middle. -/
structure Cuts (x u v y : List PV) (a m b mid st en : Nat) : Prop where
  st1 : a ≤ st
  st2 : st ≤ mid
  st3 : st ≤ m
  en1 : m ≤ en
  en2 : en ≤ b
  en3 : en + st = mid + m
  lt : ∀ p ∈ u.drop (st - a), ∀ q ∈ v.take (en - m), q.1 < p.1
  le : ∀ p ∈ u.take (st - a), ∀ q ∈ v.drop (en - m), p.1 ≤ q.1

/-- The left half is merged. -/
def LeftDone (x u v y : List PV) (a m st en : Nat) (w : World) (g n cap : Nat) (w2 : World) : Prop :=
  ∃ s, Srt s ∧ StEq (u.take (st - a) ++ v.take (en - m)) s ∧ PRow w2 g n cap (x ++ s ++ (u.drop (st - a) ++ v.drop (en - m) ++ y)) ∧ w.grownBy w2 (some g)
/-- Where the middle search begins and ends. -/
def StartOk (a m b mid s0 r0 : Nat) : Prop := (mid < m ∧ s0 + b = mid + m ∧ r0 = mid) ∨ (m ≤ mid ∧ s0 = a ∧ r0 = m)
set_option maxRecDepth 100000 in
set_option maxHeartbeats 6400000 in
theorem sym_mid (N : Nat) (ih : SymSaid N) (x u v y : List PV) (w : World) (g n cap a m b : Nat) (hN : u.length + v.length ≤ N + 1) (hu2 : 2 ≤ u.length) (hv2 : 2 ≤ v.length) (hu : Srt u) (hv : Srt v) (hrow : PRow w g n cap (x ++ u ++ (v ++ y))) (ha : a = x.length) (hm : m = a + u.length) (hb : b = m + v.length)
    (hn : n ≤ 35184372088832) (hsm : ∀ p ∈ u ++ v, Small p.1) :
    Calls Tryd.prog 128 #[.slice (some ⟨g, 0, none⟩) n cap, .int .i64 a, .int .i64 m, .int .i64 b, .func (.func 116) #[] #[]] w (MergedPost x u v y w g n cap) := by
  have hlen := hrow.len
  simp only [List.length_append] at hlen
  have hbn : b ≤ n := by omega
  have ham : a + 2 ≤ m := by omega
  have hmb : m + 2 ≤ b := by omega
  have hNN : b - a ≤ N + 1 := by omega
  have h0 : ((m : Int) - a == 1) = false := by simp; omega
  have h1 : ((b : Int) - m == 1) = false := by simp; omega
  obtain ⟨mid, hmid⟩ : ∃ mid, mid = (a + b) / 2 := ⟨_, rfl⟩
  have hmidI : ((a : Int) + b) / 2 = mid := by omega
  have hmid1 : 2 * mid ≤ a + b := by omega
  have hmid2 : a + b ≤ 2 * mid + 1 := by omega
  have HIH := Lib.hid ih
  have HRow := Lib.hid hrow
  have HA := Lib.hid ha
  have HM := Lib.hid hm
  have HB := Lib.hid hb
  have HU := Lib.hid hu
  have HV := Lib.hid hv
  have HSm := Lib.hid hsm
  clear hlen hrow ha hm hb hu hv hsm ih hmid hN hu2 hv2
  go_enter Tryd.func128, Tryd.ntmps128
  go_upto_if 140 with fail
  go_cut [20, 21] (fun s20 s21 wx => ∃ s0 r0 : Nat, s20 = .int .i64 s0 ∧ s21 = .int .i64 r0 ∧ StartOk a m b mid s0 r0 ∧ w = wx)
  case first =>
    as_aux_lemma =>
      rcases Nat.lt_or_ge mid m with hc | hc
      · have hcI : (mid : Int) < m := by omega
        go_wp2_with fail
        go_meet
        exact ⟨mid + m - b, mid, by congr 1; omega, rfl, .inl ⟨hc, by omega, rfl⟩, rfl⟩
      · have hcI : ¬ (mid : Int) < m := by omega
        go_wp2_with fail
        go_meet
        exact ⟨a, m, rfl, rfl, .inr ⟨hc, rfl, rfl⟩, rfl⟩
  case rest =>
  obtain ⟨s0, r0, rfl, rfl, hso, rfl⟩ := hcut
  have HSO := Lib.hid hso
  have HP3 : Hid (∀ c, s0 ≤ c → c < r0 → c ≤ mid + m - 1 ∧ m ≤ mid + m - 1 - c ∧ mid + m - 1 - c < b) := Lib.hid (fun c _ _ => by unfold StartOk at hso; omega)
  have hsr : s0 ≤ r0 := by unfold StartOk at hso; omega
  have ha0 : a ≤ s0 := by unfold StartOk at hso; omega
  have hr0m : r0 ≤ m := by unfold StartOk at hso; omega
  have hr0d : r0 ≤ mid := by unfold StartOk at hso; omega
  have HMon : Hid (Mon (midP (x ++ u ++ (v ++ y)) (mid + m - 1)) s0 r0) := Lib.hid (mid_mon HU.out HV.out (by have := HA.out; omega) (by have := HA.out; have := HM.out; omega) (fun c h1 h2 => by have := HP3.out c h1 h2; have := HA.out; have := HM.out; have := HB.out; omega))
  clear hso h0 h1 hmidI
  go_wp2
  go_loopw [20, 21] (SS (midP (x ++ u ++ (v ++ y)) (mid + m - 1)) (x ++ u ++ (v ++ y)) s0 r0 w g n cap) (fun i j _ => (intOf j).toNat - (intOf i).toNat)
  case atStart => exact ⟨s0, r0, rfl, rfl, bs_start hsr, HRow.out, World.grownBy.refl _ _⟩
  case round =>
    obtain ⟨st, r, rfl, rfl, hbs, hr, hg⟩ := hrel
    have HBs := Lib.hid hbs
    have HR := Lib.hid hr
    have HG := Lib.hid hg
    obtain ⟨hb1, hb2, hb3, _, _⟩ := hbs
    clear hr hg
    by_cases hlt : st < r
    · have hltI : (st : Int) < r := by omega
      obtain ⟨hh1, hh2⟩ := half hlt
      obtain ⟨h, hh⟩ : ∃ h, h = (st + r) / 2 := ⟨_, rfl⟩
      rw [← hh] at hh1 hh2
      have hhI : ((st : Int) + r) / 2 = h := by omega
      clear hh
      obtain ⟨j1, j2, j3⟩ := HP3.out h (by omega) (by omega)
      obtain ⟨j, hj⟩ : ∃ j, j = mid + m - 1 - h := ⟨_, rfl⟩
      rw [← hj] at j2 j3
      have hjI : (mid : Int) + m - 1 - h = j := by omega
      have hhn : h < n := by omega
      have hhnI : (h : Int) < n := by omega
      have hjn : j < n := by omega
      have hjnI : (j : Int) < n := by omega
      have HJ := Lib.hid hj
      clear hj
      obtain ⟨p, hp⟩ : ∃ p, (x ++ u ++ (v ++ y))[h]? = some p := ⟨_, List.getElem?_eq_getElem (by rw [HR.out.len]; exact hhn)⟩
      obtain ⟨q, hq⟩ : ∃ q, (x ++ u ++ (v ++ y))[j]? = some q := ⟨_, List.getElem?_eq_getElem (by rw [HR.out.len]; exact hjn)⟩
      have HP := Lib.hid hp
      have HQ := Lib.hid hq
      have e1 : x ++ u ++ (v ++ y) = x ++ (u ++ v) ++ y := by simp
      have hps : Small p.1 := HSm.out p (by
        rw [e1] at hp
        have h2 := HA.out
        have h3 := HM.out
        have h4 := HB.out
        exact mem_seg hp (by omega) (by simp; omega))
      have hqs : Small q.1 := HSm.out q (by
        rw [e1] at hq
        have h2 := HA.out
        have h3 := HM.out
        have h4 := HB.out
        exact mem_seg hq (by omega) (by simp; omega))
      have HPS := Lib.hid hps
      have HQS := Lib.hid hqs
      unfold Small at hps hqs
      obtain ⟨c1, c2⟩ := HR.out.at_ hp
      obtain ⟨d1, d2⟩ := HR.out.at_ hq
      clear hp hq e1
      by_cases hcmp : q.1 < p.1
      · as_aux_lemma =>
          have hdc : decide (q.1 - p.1 < 0) = true := by simp; omega
          go_wp2
          refine wp_region_qs (fun k w' => k = 0 → w'.cell? ⟨g, h * 2, none⟩ = some (.int .i64 p.1) ∧ w'.cell? ⟨g, h * 2 + 1, none⟩ = some p.2 ∧ w'.cell? ⟨g, j * 2, none⟩ = some (.int .i64 q.1) ∧ w'.cell? ⟨g, j * 2 + 1, none⟩ = some q.2)
            [(0, some 0), (1, some 1), (2, some 1), (3, some 1), (4, some 1), (5, some 1), (6, some 0), (7, some 1), (8, some 1), (9, some 1), (10, some 0), (11, none), (12, some 1), (13, some 1)] (by kernel_rfl) (by kernel_rfl) (by kernel_rfl) (by kernel_rfl) (by kernel_rfl) (fun _ _ _ _ _ h => h) (fun _ => ⟨c1, c2, d1, d2⟩) ?_
          simp only [List.map_cons, List.map_nil, List.getD_cons_succ, List.getD_cons_zero]
          (repeat (first | (refine qs_now (v := ?_) (by rfl) ?_ ?_; rotate_left 1; (· (intro w' hS; go_simp; (try (simp only [↓IntWalk.iteOmega]; go_simp)); (try simp (disch := omega) only [IntWalk.i64_in]); try with_reducible rfl)); simp only [Act.put, List.setIfInBounds_toArray, List.set_cons_zero, List.set_cons_succ]) | (refine qs_run (v := ?_) (by rfl) ?_ ?_; rotate_left 1; (· (intro j w' hS; go_simp; (try (simp only [↓IntWalk.iteOmega]; go_simp)); (try simp (disch := omega) only [IntWalk.i64_in]); try with_reducible rfl)); simp only [Act.put, List.setIfInBounds_toArray, List.set_cons_zero, List.set_cons_succ]) | (refine qs_skip (by rfl) ?_; simp only [Act.put, List.setIfInBounds_toArray, List.set_cons_zero, List.set_cons_succ])))
          refine qs_act ?_
          go_wp2_with (go_at_call 116; refine (cmp_any q.1 p.1 _ _ _ HQS.out HPS.out).mono ?_; rintro ev w1 ⟨rfl, hb1⟩)
          refine ⟨fun h => h.elim, ?_⟩
          (repeat (first | (refine qs_now (v := ?_) (by rfl) ?_ ?_; rotate_left 1; (· (intro w' hS; go_simp; (try (simp only [↓IntWalk.iteOmega]; go_simp)); (try simp (disch := omega) only [IntWalk.i64_in]); try with_reducible rfl)); simp only [Act.put, List.setIfInBounds_toArray, List.set_cons_zero, List.set_cons_succ]) | (refine qs_run (v := ?_) (by rfl) ?_ ?_; rotate_left 1; (· (intro j w' hS; go_simp; (try (simp only [↓IntWalk.iteOmega]; go_simp)); (try simp (disch := omega) only [IntWalk.i64_in]); try with_reducible rfl)); simp only [Act.put, List.setIfInBounds_toArray, List.set_cons_zero, List.set_cons_succ]) | (refine qs_skip (by rfl) ?_; simp only [Act.put, List.setIfInBounds_toArray, List.set_cons_zero, List.set_cons_succ])))
          refine qs_nil ?_
          clear c1 c2 d1 d2
          have HR1 := Lib.hid (HR.out.drew.grown hb1)
          have HG1 := Lib.hid (grown_below (grown_drew HG.out) hb1)
          clear hb1
          go_wp2
          go_roundw
          case rel => exact ⟨st, h, rfl, rfl, bs_no HBs.out HMon.out hh1 hh2 (by simp only [midP, decide_eq_false_iff_not]; rw [key_some HP.out, ← HJ.out, key_some HQ.out]; omega), HR1.out, HG1.out⟩
          case measure => simp [intOf]; omega
      · as_aux_lemma =>
          have hdc : decide (q.1 - p.1 < 0) = false := by simp; omega
          go_wp2
          refine wp_region_qs (fun k w' => k = 0 → w'.cell? ⟨g, h * 2, none⟩ = some (.int .i64 p.1) ∧ w'.cell? ⟨g, h * 2 + 1, none⟩ = some p.2 ∧ w'.cell? ⟨g, j * 2, none⟩ = some (.int .i64 q.1) ∧ w'.cell? ⟨g, j * 2 + 1, none⟩ = some q.2)
            [(0, some 0), (1, some 1), (2, some 1), (3, some 1), (4, some 1), (5, some 1), (6, some 0), (7, some 1), (8, some 1), (9, some 1), (10, some 0), (11, none), (12, some 1), (13, some 1)] (by kernel_rfl) (by kernel_rfl) (by kernel_rfl) (by kernel_rfl) (by kernel_rfl) (fun _ _ _ _ _ h => h) (fun _ => ⟨c1, c2, d1, d2⟩) ?_
          simp only [List.map_cons, List.map_nil, List.getD_cons_succ, List.getD_cons_zero]
          (repeat (first | (refine qs_now (v := ?_) (by rfl) ?_ ?_; rotate_left 1; (· (intro w' hS; go_simp; (try (simp only [↓IntWalk.iteOmega]; go_simp)); (try simp (disch := omega) only [IntWalk.i64_in]); try with_reducible rfl)); simp only [Act.put, List.setIfInBounds_toArray, List.set_cons_zero, List.set_cons_succ]) | (refine qs_run (v := ?_) (by rfl) ?_ ?_; rotate_left 1; (· (intro j w' hS; go_simp; (try (simp only [↓IntWalk.iteOmega]; go_simp)); (try simp (disch := omega) only [IntWalk.i64_in]); try with_reducible rfl)); simp only [Act.put, List.setIfInBounds_toArray, List.set_cons_zero, List.set_cons_succ]) | (refine qs_skip (by rfl) ?_; simp only [Act.put, List.setIfInBounds_toArray, List.set_cons_zero, List.set_cons_succ])))
          refine qs_act ?_
          go_wp2_with (go_at_call 116; refine (cmp_any q.1 p.1 _ _ _ HQS.out HPS.out).mono ?_; rintro ev w1 ⟨rfl, hb1⟩)
          refine ⟨fun h => h.elim, ?_⟩
          (repeat (first | (refine qs_now (v := ?_) (by rfl) ?_ ?_; rotate_left 1; (· (intro w' hS; go_simp; (try (simp only [↓IntWalk.iteOmega]; go_simp)); (try simp (disch := omega) only [IntWalk.i64_in]); try with_reducible rfl)); simp only [Act.put, List.setIfInBounds_toArray, List.set_cons_zero, List.set_cons_succ]) | (refine qs_run (v := ?_) (by rfl) ?_ ?_; rotate_left 1; (· (intro j w' hS; go_simp; (try (simp only [↓IntWalk.iteOmega]; go_simp)); (try simp (disch := omega) only [IntWalk.i64_in]); try with_reducible rfl)); simp only [Act.put, List.setIfInBounds_toArray, List.set_cons_zero, List.set_cons_succ]) | (refine qs_skip (by rfl) ?_; simp only [Act.put, List.setIfInBounds_toArray, List.set_cons_zero, List.set_cons_succ])))
          refine qs_nil ?_
          clear c1 c2 d1 d2
          have HR1 := Lib.hid (HR.out.drew.grown hb1)
          have HG1 := Lib.hid (grown_below (grown_drew HG.out) hb1)
          clear hb1
          go_wp2
          go_roundw
          case rel => exact ⟨h + 1, r, by go_num, rfl, bs_yes HBs.out HMon.out hh1 hh2 (by simp only [midP, decide_eq_true_eq]; rw [key_some HP.out, ← HJ.out, key_some HQ.out]; omega), HR1.out, HG1.out⟩
          case measure => simp [intOf]; omega
    · have hltI : ¬ (st : Int) < r := by omega
      obtain rfl : st = r := by omega
      obtain ⟨en, hen⟩ : ∃ en, en = mid + m - st := ⟨_, rfl⟩
      have hso := HSO.out
      unfold StartOk at hso
      have HC : Hid (Cuts x u v y a m b mid st en) := by
        have h1 := HA.out
        have h2 := HM.out
        have h3 := HB.out
        obtain ⟨k1, k2⟩ := mid_cut (x := x) (u := u) (v := v) (y := y) HU.out HV.out (m := m) (mid := mid) (b := b) (s0 := s0) (r0 := r0) (st := st) (en := en) (by omega) h3 hen (by omega) (by omega) HBs.out (by omega) (by omega) (by omega) (fun h => by omega) (fun h => by omega)
        rw [← h1] at k1 k2
        exact ⟨by omega, by omega, by omega, by omega, by omega, by omega, k1, k2⟩
      have henI : (mid : Int) + m - st = en := by omega
      obtain ⟨k1, k2, k3, k4, k5, k6, _, _⟩ := HC.out
      clear hen HMon HP3 HBs hso HSO
      go_upto_region 39 with fail
      go_cut [185] (fun c wx => c = .bool (decide (st < m ∧ m < en)) ∧ wr = wx)
      case first =>
        as_aux_lemma =>
          by_cases hd1 : st < m
          · have hd1I : (st : Int) < m := by omega
            by_cases hd2 : m < en
            · have hd2I : (m : Int) < en := by omega
              go_wp2_with fail
              go_meet
              exact ⟨by simp [hd1, hd2], rfl⟩
            · have hd2I : ¬ (m : Int) < en := by omega
              go_wp2_with fail
              go_meet
              exact ⟨by simp [hd1, hd2], rfl⟩
          · have hd1I : ¬ (st : Int) < m := by omega
            go_wp2_with fail
            go_meet
            exact ⟨by simp [hd1], rfl⟩
      case rest =>
      obtain ⟨rfl, rfl⟩ := hcut
      go_upto_if 185 with fail
      go_cut [20] (fun s20 wx => s20 = .int .i64 st ∧ PRow wx g n cap (x ++ u.take (st - a) ++ v.take (en - m) ++ u.drop (st - a) ++ (v.drop (en - m) ++ y)) ∧ w.grownBy wx (some g))
      case first =>
        as_aux_lemma =>
          by_cases hc1 : st < m ∧ m < en
          · have hcD : decide (st < m ∧ m < en) = true := by simpa using hc1
            obtain ⟨hc1, hc2⟩ := hc1
            go_wp2_with fail
            refine (rotate_any (x ++ u.take (st - a)) (u.drop (st - a)) (v.take (en - m)) (v.drop (en - m) ++ y) wr g n cap st m en (by
                have h1 := HR.out
                have e1 : u = u.take (st - a) ++ u.drop (st - a) := (List.take_append_drop _ _).symm
                have e2 : v = v.take (en - m) ++ v.drop (en - m) := (List.take_append_drop _ _).symm
                have e3 : x ++ u ++ (v ++ y) = x ++ u.take (st - a) ++ u.drop (st - a) ++ v.take (en - m) ++ (v.drop (en - m) ++ y) := by
                  conv => lhs; rw [e1, e2]
                  simp only [List.append_assoc]
                rw [e3] at h1
                exact h1) (by have h1 := HA.out; have h2 := HM.out; rw [List.length_append, List.length_take]; omega) (by have h2 := HM.out; rw [List.length_drop]; omega) (by have h2 := HB.out; rw [List.length_take]; omega)
                (by intro h0; have := congrArg List.length h0; have h2 := HM.out; rw [List.length_drop, List.length_nil] at this; omega) (by intro h0; have := congrArg List.length h0; have h2 := HB.out; rw [List.length_take, List.length_nil] at this; omega) hn).mono ?_
            rintro ev w1 ⟨rfl, hr1, hg1⟩
            have HR1 := Lib.hid hr1
            have HG1 := Lib.hid (HG.out.trans hg1)
            clear hr1 hg1 HR HG
            go_wp2_with fail
            go_meet
            exact ⟨rfl, HR1.out, HG1.out⟩
          · have HR1 : Hid (PRow wr g n cap (x ++ u.take (st - a) ++ v.take (en - m) ++ u.drop (st - a) ++ (v.drop (en - m) ++ y))) := by
              have h1 := HR.out
              have h2 := HM.out
              have h3 := HB.out
              have e1 : u = u.take (st - a) ++ u.drop (st - a) := (List.take_append_drop _ _).symm
              have e2 : v = v.take (en - m) ++ v.drop (en - m) := (List.take_append_drop _ _).symm
              have e3 : x ++ u ++ (v ++ y) = x ++ u.take (st - a) ++ v.take (en - m) ++ u.drop (st - a) ++ (v.drop (en - m) ++ y) := by
                conv => lhs; rw [e1, e2]
                by_cases hz : st = m
                · rw [List.drop_of_length_le (by omega : u.length ≤ st - a)]; simp only [List.append_assoc, List.append_nil]
                · rw [show en - m = 0 from by omega]; simp only [List.append_assoc, List.take_zero, List.append_nil, List.nil_append]
              rw [e3] at h1
              exact h1
            have hcD : decide (st < m ∧ m < en) = false := by simpa using hc1
            go_wp2_with fail
            go_meet
            exact ⟨rfl, HR1.out, HG.out⟩
      case rest =>
      obtain ⟨rfl, hr1, hg1⟩ := hcut
      have HR1 := Lib.hid hr1
      have HG1 := Lib.hid hg1
      clear hr1 hg1 HR HG
      go_upto_region 41 with fail
      go_cut [199] (fun c wx => c = .bool (decide (a < st ∧ st < mid)) ∧ wc = wx)
      case first =>
        as_aux_lemma =>
          by_cases hd1 : a < st
          · have hd1I : (a : Int) < st := by omega
            by_cases hd2 : st < mid
            · have hd2I : (st : Int) < mid := by omega
              go_wp2_with fail
              go_meet
              exact ⟨by simp [hd1, hd2], rfl⟩
            · have hd2I : ¬ (st : Int) < mid := by omega
              go_wp2_with fail
              go_meet
              exact ⟨by simp [hd1, hd2], rfl⟩
          · have hd1I : ¬ (a : Int) < st := by omega
            go_wp2_with fail
            go_meet
            exact ⟨by simp [hd1], rfl⟩
      case rest =>
      obtain ⟨rfl, rfl⟩ := hcut
      go_upto_if 199 with fail
      go_cut [20] (fun s20 wx => s20 = .int .i64 st ∧ LeftDone x u v y a m st en w g n cap wx)
      case first =>
        as_aux_lemma =>
          by_cases hc3 : a < st ∧ st < mid
          · have hcD : decide (a < st ∧ st < mid) = true := by simpa using hc3
            obtain ⟨hc3, hc4⟩ := hc3
            go_wp2_with fail
            refine (HIH.out x (u.take (st - a)) (v.take (en - m)) (u.drop (st - a) ++ v.drop (en - m) ++ y) wc g n cap a st mid (by have h1 := HM.out; have h2 := HB.out; simp; omega) (by have h1 := HM.out; simp; omega) (by have h1 := HM.out; have h2 := HB.out; simp; omega) (srt_take HU.out _).1 (srt_take HV.out _).1 (by simpa using HR1.out)
              HA.out (by have h1 := HM.out; simp; omega) (by have h1 := HM.out; have h2 := HB.out; simp; omega) hn
              (fun p hp => HSm.out p (by rcases List.mem_append.1 hp with hp | hp; (· exact List.mem_append_left _ (List.mem_of_mem_take hp)); (· exact List.mem_append_right _ (List.mem_of_mem_take hp))))).mono ?_
            rintro ev w2 ⟨rfl, s, hs1, hs2, hr2, hg2⟩
            have HD : Hid (LeftDone x u v y a m st en w g n cap w2) := Lib.hid ⟨s, hs1, hs2, hr2, HG1.out.trans hg2⟩
            clear hs1 hs2 hr2 hg2
            go_wp2_with fail
            go_meet
            exact ⟨rfl, HD.out⟩
          · have HD : Hid (LeftDone x u v y a m st en w g n cap wc) := by
              have h1 := HM.out
              have h2 := HB.out
              refine ⟨_, srt_one (srt_take HU.out (st - a)).1 (srt_take HV.out (en - m)).1 (by simp; omega), StEq.refl _, ?_, HG1.out⟩
              simpa using HR1.out
            have hcD : decide (a < st ∧ st < mid) = false := by simpa using hc3
            go_wp2_with fail
            go_meet
            exact ⟨rfl, HD.out⟩
      case rest =>
      obtain ⟨rfl, s, hs1, hs2, hr2, hg2⟩ := hcut
      have HS1 := Lib.hid hs1
      have HS2 := Lib.hid hs2
      have HR2 := Lib.hid hr2
      have HG2 := Lib.hid hg2
      clear hs1 hs2 hr2 hg2 HR1 HG1
      by_cases hc5 : mid < en ∧ en < b
      · obtain ⟨hc5, hc6⟩ := hc5
        have hc5I : (mid : Int) < en := by omega
        have hc6I : (en : Int) < b := by omega
        go_wp2_with fail
        refine (HIH.out (x ++ s) (u.drop (st - a)) (v.drop (en - m)) y wc g n cap mid en b (by have h1 := HM.out; have h2 := HB.out; simp; omega) (by have h1 := HM.out; simp; omega) (by have h2 := HB.out; simp; omega) (srt_take HU.out _).2.1 (srt_take HV.out _).2.1 (by simpa using HR2.out)
          (by have h1 := HS2.out.length; have h2 := HA.out; have h3 := HM.out; have h4 := HB.out; simp at h1; simp; omega) (by have h1 := HM.out; simp; omega) (by have h2 := HB.out; simp; omega) hn
          (fun p hp => HSm.out p (by rcases List.mem_append.1 hp with hp | hp; (· exact List.mem_append_left _ (List.mem_of_mem_drop hp)); (· exact List.mem_append_right _ (List.mem_of_mem_drop hp))))).mono ?_
        rintro ev w3 ⟨rfl, t, ht1, ht2, hr3, hg3⟩
        have HP : Hid (MergedPost x u v y w g n cap (.returned (.tuple #[])) w3) := by
          obtain ⟨k1, k2⟩ := sym_step (srt_take HU.out (st - a)).2.2 (srt_take HV.out (en - m)).2.2 HC.out.lt HC.out.le HS1.out HS2.out ht1 ht2
          rw [List.take_append_drop, List.take_append_drop] at k2
          exact ⟨rfl, s ++ t, k1, k2, by simpa using hr3, HG2.out.trans hg3⟩
        clear ht1 ht2 hr3 hg3
        go_wp2
        go_end0
        exact HP.out
      · have HP : Hid (MergedPost x u v y w g n cap (.returned (.tuple #[])) wc) := by
          have h1 := HM.out
          have h2 := HB.out
          obtain ⟨k1, k2⟩ := sym_step (srt_take HU.out (st - a)).2.2 (srt_take HV.out (en - m)).2.2 HC.out.lt HC.out.le HS1.out HS2.out (srt_one (srt_take HU.out (st - a)).2.1 (srt_take HV.out (en - m)).2.1 (by simp; omega)) (StEq.refl _)
          rw [List.take_append_drop, List.take_append_drop] at k2
          exact ⟨rfl, _, k1, k2, by simpa using HR2.out, HG2.out⟩
        by_cases hc6 : mid < en
        · have hc5I : (mid : Int) < en := by omega
          have hc6I : ¬ (en : Int) < b := by omega
          have hc6D : decide ((en : Int) < b) = false := by simpa using hc6I
          have hc6N : decide (en < b) = false := by simp; omega
          go_wp2
          go_end0
          exact HP.out
        · have hc5I : ¬ (mid : Int) < en := by omega
          go_wp2
          go_end0
          exact HP.out

theorem sym_all : ∀ N, SymSaid N
  | 0 => fun x u v y w g n cap a m b h1 h2 h3 => by omega
  | N + 1 => fun x u v y w g n cap a m b h1 h2 h3 h4 h5 h6 h7 h8 h9 h10 h11 => by
    by_cases hu1 : u.length = 1
    · obtain ⟨e, rfl⟩ := List.length_eq_one_iff.1 hu1
      exact sym_left x v y e w g n cap a m b h6 h7 h8 h9 h5 h10 h11
    · by_cases hv1 : v.length = 1
      · obtain ⟨e, rfl⟩ := List.length_eq_one_iff.1 hv1
        exact sym_right x u y e w g n cap a m b h6 h7 h8 h9 h4 hu1 h10 h11
      · exact sym_mid N (sym_all N) x u v y w g n cap a m b h1 (by omega) (by omega) h4 h5 h6 h7 h8 h9 h10 h11
end Go.Proofs.YtlhaehefhhcgaaaDoor
