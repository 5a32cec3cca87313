/-
  peatbanklaw31.bare, walked.
-/
import Derived.Test.YtonpihoidjahhaaDoorLnTale
import Derived.Test.YtonpihoidjahhaaDoorLnBackP
namespace Go.Proofs.YtonpihoidjahhaaDoor
open Go.RowKit
set_option linter.unusedVariables false
set_option linter.unusedSimpArgs false

set_option maxRecDepth 100000 in
set_option maxHeartbeats 3200000 in
theorem bare_any (x : StepV) (v : Value) (w : World) (hx : StRd w v x) (hk0 : 0 ≤ x.kind) (hbn : x.bytes.length ≤ 1000000) (hfn : x.fates.length ≤ 1000000) :
    Calls Tryd.prog 12 #[v] w fun e w' => e = .returned (.bool (eqS x (bareS x))) ∧ Below w.heap.size w w' := by
  obtain ⟨A, c, A', c', rfl, ha, hf⟩ := hx
  have HA := Lib.hid ha
  have HF := Lib.hid hf
  clear ha hf
  unfold stepVs
  go_enter Tryd.func12, Tryd.ntmps12
  go_upto_region 2 with fail
  obtain ⟨wa, hwa⟩ : ∃ wa, wa = (w.alloc (Obj.cells (stepVs x (.slice A x.bytes.length c) (.slice A' x.fates.length c')) 39)).alloc (Obj.cells (stepVs ⟨x.kind, 0, 0, 0, [], []⟩ (.slice none 0 0) (.slice none 0 0)) 39) := ⟨_, rfl⟩
  have K1 := Lib.hid (show Blk wa w.heap.size 39 (stepVs x (.slice A x.bytes.length c) (.slice A' x.fates.length c')) by rw [hwa]; exact (Blk.made _ _ _).alloc _)
  have J1 := Lib.hid (show Blk wa (w.heap.size + 1) 39 (stepVs ⟨x.kind, 0, 0, 0, [], []⟩ (.slice none 0 0) (.slice none 0 0)) by rw [hwa]; exact Blk.made_at _ _ _ (by simp))
  have L1 := Lib.hid (show Below w.heap.size w wa by rw [hwa]; exact (((Below.refl _ _).alloc (Nat.le_refl _) _).alloc (by simp) _))
  unfold stepVs at hwa
  simp only at hwa
  rw [← hwa]
  clear hwa
  have K1u := K1
  have J1u := J1
  unfold stepVs at K1u J1u
  have k0 := K1u.out.cell (i := 0) rfl
  have k1 := K1u.out.cell (i := 1) rfl
  have k2 := K1u.out.cell (i := 2) rfl
  have k3 := K1u.out.cell (i := 3) rfl
  have k4 := K1u.out.cell (i := 4) rfl
  have k5 := K1u.out.cell (i := 5) rfl
  have j1 := J1u.out.cell (i := 1) rfl
  have f1 := J1u.out.free 1
  have j2 := J1u.out.cell (i := 2) rfl
  have f2 := J1u.out.free 2
  have j3 := J1u.out.cell (i := 3) rfl
  have f3 := J1u.out.free 3
  have j4 := J1u.out.cell (i := 4) rfl
  have f4 := J1u.out.free 4
  have j5 := J1u.out.cell (i := 5) rfl
  have f5 := J1u.out.free 5
  clear K1u J1u
  by_cases hkk : 1 ≤ x.kind ∧ x.kind ≤ 12
  · obtain ⟨hka, hkb⟩ := hkk
    rcases (by omega : x.kind = 1 ∨ x.kind = 2 ∨ x.kind = 3 ∨ x.kind = 4 ∨ x.kind = 5 ∨ x.kind = 6 ∨ x.kind = 7 ∨ x.kind = 8 ∨ x.kind = 9 ∨ x.kind = 10 ∨ x.kind = 11 ∨ x.kind = 12) with hk | hk | hk | hk | hk | hk | hk | hk | hk | hk | hk | hk
    · have HKe := Lib.hid hk
      rw [hk] at k0
      clear hk hk0
      go_wp2
      refine wp_region_qs (fun _ w' => w'.cell? ⟨w.heap.size, 1, none⟩ = some (.int .i64 x.pos) ∧ w'.cell? ⟨w.heap.size, 2, none⟩ = some (.int .i64 x.n)) [(0, some 0), (1, some 0), (2, some 1), (3, some 1), (4, some 0), (5, none), (6, some 1), (7, none)] (by kernel_rfl) (by kernel_rfl) (by kernel_rfl) (by kernel_rfl) (by kernel_rfl) (fun _ _ _ _ _ h => h) ⟨k1, k2⟩ ?_
      simp only [List.map_cons, List.map_nil, List.getD_cons_succ, List.getD_cons_zero]
      (repeat (first | (refine qs_now (v := ?_) (by rfl) ?_ ?_; rotate_left 1; (· (intro w' hS; go_simp; (try (simp only [↓IntWalk.iteOmega]; go_simp)); (try simp (disch := omega) only [IntWalk.i64_in]); try with_reducible rfl)); simp only [Act.put, List.setIfInBounds_toArray, List.set_cons_zero, List.set_cons_succ]) | (refine qs_run (v := ?_) (by rfl) ?_ ?_; rotate_left 1; (· (intro j w' hS; go_simp; (try (simp only [↓IntWalk.iteOmega]; go_simp)); (try simp (disch := omega) only [IntWalk.i64_in]); try with_reducible rfl)); simp only [Act.put, List.setIfInBounds_toArray, List.set_cons_zero, List.set_cons_succ]) | (refine qs_mid (v := ?_) (by rfl) ?_ ?_; rotate_left 1; (· (intro j w' hj1 hj2 hS; go_simp; (try (simp only [↓IntWalk.iteOmega]; go_simp)); (try simp (disch := omega) only [IntWalk.i64_in]); try with_reducible rfl)); simp only [Act.put, List.setIfInBounds_toArray, List.set_cons_zero, List.set_cons_succ]) | (refine qs_skip (by rfl) ?_; simp only [Act.put, List.setIfInBounds_toArray, List.set_cons_zero, List.set_cons_succ])))
      obtain ⟨wq, hwq⟩ : ∃ wq, wq = wa.drew := ⟨_, rfl⟩
      have K2 := Lib.hid (show Blk wq w.heap.size 39 (stepVs x (.slice A x.bytes.length c) (.slice A' x.fates.length c')) by rw [hwq]; exact K1.out.drew)
      have J2 := Lib.hid (show Blk wq (w.heap.size + 1) 39 (stepVs ⟨x.kind, 0, 0, 0, [], []⟩ (.slice none 0 0) (.slice none 0 0)) by rw [hwq]; exact J1.out.drew)
      have L2 := Lib.hid (show Below w.heap.size w wq by rw [hwq]; exact L1.out.drew)
      rw [← hwq]
      clear hwq k0 k1 k2 k3 k4 k5 j1 f1 j2 f2 j3 f3 j4 f4 j5 f5
      refine qs_act ?_
      have Ju := J2
      unfold stepVs at Ju
      have jc := Ju.out.cell (i := 1) rfl
      have jf := Ju.out.free 1
      go_wp2
      obtain ⟨w3, hw3⟩ : ∃ w3, w3 = wq.setCell ⟨w.heap.size + 1, 1, none⟩ (.int .i64 x.pos) := ⟨_, rfl⟩
      have K3 := Lib.hid (show Blk w3 w.heap.size 39 (stepVs x (.slice A x.bytes.length c) (.slice A' x.fates.length c')) by rw [hw3]; exact K2.out.else_ (by simp only; omega) _)
      have J3 := Lib.hid (show Blk w3 (w.heap.size + 1) 39 #[.int .u8 x.kind, .int .i64 x.pos, .int .i64 0, .int .i64 0, .slice none 0 0, .slice none 0 0] by rw [hw3]; exact J2.out.put 1 _)
      have L3 := Lib.hid (show Below w.heap.size w w3 by rw [hw3]; exact bel_put L2.out (by omega) _ _)
      rw [← hw3]
      clear hw3 jc jf Ju
      have Ku := K2
      unfold stepVs at Ku
      have k1 := Ku.out.cell (i := 1) rfl
      have k2 := Ku.out.cell (i := 2) rfl
      refine ⟨⟨k1, k2⟩, ?_⟩
      clear k1 k2 Ku
      (repeat (first | (refine qs_now (v := ?_) (by rfl) ?_ ?_; rotate_left 1; (· (intro w' hS; go_simp; (try (simp only [↓IntWalk.iteOmega]; go_simp)); (try simp (disch := omega) only [IntWalk.i64_in]); try with_reducible rfl)); simp only [Act.put, List.setIfInBounds_toArray, List.set_cons_zero, List.set_cons_succ]) | (refine qs_run (v := ?_) (by rfl) ?_ ?_; rotate_left 1; (· (intro j w' hS; go_simp; (try (simp only [↓IntWalk.iteOmega]; go_simp)); (try simp (disch := omega) only [IntWalk.i64_in]); try with_reducible rfl)); simp only [Act.put, List.setIfInBounds_toArray, List.set_cons_zero, List.set_cons_succ]) | (refine qs_mid (v := ?_) (by rfl) ?_ ?_; rotate_left 1; (· (intro j w' hj1 hj2 hS; go_simp; (try (simp only [↓IntWalk.iteOmega]; go_simp)); (try simp (disch := omega) only [IntWalk.i64_in]); try with_reducible rfl)); simp only [Act.put, List.setIfInBounds_toArray, List.set_cons_zero, List.set_cons_succ]) | (refine qs_skip (by rfl) ?_; simp only [Act.put, List.setIfInBounds_toArray, List.set_cons_zero, List.set_cons_succ])))
      refine qs_act ?_
      have Ju := J3
      unfold stepVs at Ju
      have jc := Ju.out.cell (i := 2) rfl
      have jf := Ju.out.free 2
      go_wp2
      obtain ⟨w4, hw4⟩ : ∃ w4, w4 = w3.setCell ⟨w.heap.size + 1, 2, none⟩ (.int .i64 x.n) := ⟨_, rfl⟩
      have K4 := Lib.hid (show Blk w4 w.heap.size 39 (stepVs x (.slice A x.bytes.length c) (.slice A' x.fates.length c')) by rw [hw4]; exact K3.out.else_ (by simp only; omega) _)
      have J4 := Lib.hid (show Blk w4 (w.heap.size + 1) 39 #[.int .u8 x.kind, .int .i64 x.pos, .int .i64 x.n, .int .i64 0, .slice none 0 0, .slice none 0 0] by rw [hw4]; exact J3.out.put 2 _)
      have L4 := Lib.hid (show Below w.heap.size w w4 by rw [hw4]; exact bel_put L3.out (by omega) _ _)
      rw [← hw4]
      clear hw4 jc jf Ju
      have Ku := K4
      unfold stepVs at Ku
      have k1 := Ku.out.cell (i := 1) rfl
      have k2 := Ku.out.cell (i := 2) rfl
      refine ⟨⟨k1, k2⟩, ?_⟩
      clear k1 k2 Ku
      (repeat (first | (refine qs_now (v := ?_) (by rfl) ?_ ?_; rotate_left 1; (· (intro w' hS; go_simp; (try (simp only [↓IntWalk.iteOmega]; go_simp)); (try simp (disch := omega) only [IntWalk.i64_in]); try with_reducible rfl)); simp only [Act.put, List.setIfInBounds_toArray, List.set_cons_zero, List.set_cons_succ]) | (refine qs_run (v := ?_) (by rfl) ?_ ?_; rotate_left 1; (· (intro j w' hS; go_simp; (try (simp only [↓IntWalk.iteOmega]; go_simp)); (try simp (disch := omega) only [IntWalk.i64_in]); try with_reducible rfl)); simp only [Act.put, List.setIfInBounds_toArray, List.set_cons_zero, List.set_cons_succ]) | (refine qs_mid (v := ?_) (by rfl) ?_ ?_; rotate_left 1; (· (intro j w' hj1 hj2 hS; go_simp; (try (simp only [↓IntWalk.iteOmega]; go_simp)); (try simp (disch := omega) only [IntWalk.i64_in]); try with_reducible rfl)); simp only [Act.put, List.setIfInBounds_toArray, List.set_cons_zero, List.set_cons_succ]) | (refine qs_skip (by rfl) ?_; simp only [Act.put, List.setIfInBounds_toArray, List.set_cons_zero, List.set_cons_succ])))
      refine qs_nil ?_
      have KX := K4
      have KY := J4
      have LZ := L4
      go_wp2_with (first | (refine wpl_load_blk rfl 39 (.tmp 1) rfl w.heap.size rfl _ _ KX.out _ Tryd.underlying39 rfl 6 infoStep rfl ?_) | (refine wpl_load_blk rfl 39 (.tmp 3) rfl (w.heap.size + 1) rfl _ _ KY.out _ Tryd.underlying39 rfl 6 infoStep rfl ?_))
      refine (same_step x ⟨x.kind, x.pos, x.n, 0, [], []⟩ _ _ _ ⟨A, c, A', c', rfl, HA.out.below LZ.out, HF.out.below LZ.out⟩ ⟨_, _, _, _, rfl, (RdI.nil _), (RdI.nil _)⟩ (by omega) (by omega) (by simp; try omega) (by simp; try omega)).mono ?_
      rintro ev wz ⟨rfl, hb⟩
      have LE := Lib.hid (below_chain LZ.out hb)
      clear hb
      have HBs := Lib.hid (show bareS x = ⟨x.kind, x.pos, x.n, 0, [], []⟩ by unfold bareS; rw [HKe.out]; simp)
      go_wp2
      go_ret
      refine ⟨?_, LE.out⟩
      rw [HBs.out]
      rfl
    · have HKe := Lib.hid hk
      rw [hk] at k0
      clear hk hk0
      go_wp2
      refine wp_region_qs (fun _ w' => w'.cell? ⟨w.heap.size, 1, none⟩ = some (.int .i64 x.pos) ∧ w'.cell? ⟨w.heap.size, 4, none⟩ = some (.slice A x.bytes.length c)) [(0, some 0), (1, some 0), (2, some 1), (3, some 1), (4, some 0), (5, none), (6, some 1), (7, none)] (by kernel_rfl) (by kernel_rfl) (by kernel_rfl) (by kernel_rfl) (by kernel_rfl) (fun _ _ _ _ _ h => h) ⟨k1, k4⟩ ?_
      simp only [List.map_cons, List.map_nil, List.getD_cons_succ, List.getD_cons_zero]
      (repeat (first | (refine qs_now (v := ?_) (by rfl) ?_ ?_; rotate_left 1; (· (intro w' hS; go_simp; (try (simp only [↓IntWalk.iteOmega]; go_simp)); (try simp (disch := omega) only [IntWalk.i64_in]); try with_reducible rfl)); simp only [Act.put, List.setIfInBounds_toArray, List.set_cons_zero, List.set_cons_succ]) | (refine qs_run (v := ?_) (by rfl) ?_ ?_; rotate_left 1; (· (intro j w' hS; go_simp; (try (simp only [↓IntWalk.iteOmega]; go_simp)); (try simp (disch := omega) only [IntWalk.i64_in]); try with_reducible rfl)); simp only [Act.put, List.setIfInBounds_toArray, List.set_cons_zero, List.set_cons_succ]) | (refine qs_mid (v := ?_) (by rfl) ?_ ?_; rotate_left 1; (· (intro j w' hj1 hj2 hS; go_simp; (try (simp only [↓IntWalk.iteOmega]; go_simp)); (try simp (disch := omega) only [IntWalk.i64_in]); try with_reducible rfl)); simp only [Act.put, List.setIfInBounds_toArray, List.set_cons_zero, List.set_cons_succ]) | (refine qs_skip (by rfl) ?_; simp only [Act.put, List.setIfInBounds_toArray, List.set_cons_zero, List.set_cons_succ])))
      obtain ⟨wq, hwq⟩ : ∃ wq, wq = wa.drew := ⟨_, rfl⟩
      have K2 := Lib.hid (show Blk wq w.heap.size 39 (stepVs x (.slice A x.bytes.length c) (.slice A' x.fates.length c')) by rw [hwq]; exact K1.out.drew)
      have J2 := Lib.hid (show Blk wq (w.heap.size + 1) 39 (stepVs ⟨x.kind, 0, 0, 0, [], []⟩ (.slice none 0 0) (.slice none 0 0)) by rw [hwq]; exact J1.out.drew)
      have L2 := Lib.hid (show Below w.heap.size w wq by rw [hwq]; exact L1.out.drew)
      rw [← hwq]
      clear hwq k0 k1 k2 k3 k4 k5 j1 f1 j2 f2 j3 f3 j4 f4 j5 f5
      refine qs_act ?_
      have Ju := J2
      unfold stepVs at Ju
      have jc := Ju.out.cell (i := 1) rfl
      have jf := Ju.out.free 1
      go_wp2
      obtain ⟨w3, hw3⟩ : ∃ w3, w3 = wq.setCell ⟨w.heap.size + 1, 1, none⟩ (.int .i64 x.pos) := ⟨_, rfl⟩
      have K3 := Lib.hid (show Blk w3 w.heap.size 39 (stepVs x (.slice A x.bytes.length c) (.slice A' x.fates.length c')) by rw [hw3]; exact K2.out.else_ (by simp only; omega) _)
      have J3 := Lib.hid (show Blk w3 (w.heap.size + 1) 39 #[.int .u8 x.kind, .int .i64 x.pos, .int .i64 0, .int .i64 0, .slice none 0 0, .slice none 0 0] by rw [hw3]; exact J2.out.put 1 _)
      have L3 := Lib.hid (show Below w.heap.size w w3 by rw [hw3]; exact bel_put L2.out (by omega) _ _)
      rw [← hw3]
      clear hw3 jc jf Ju
      have Ku := K2
      unfold stepVs at Ku
      have k1 := Ku.out.cell (i := 1) rfl
      have k4 := Ku.out.cell (i := 4) rfl
      refine ⟨⟨k1, k4⟩, ?_⟩
      clear k1 k4 Ku
      (repeat (first | (refine qs_now (v := ?_) (by rfl) ?_ ?_; rotate_left 1; (· (intro w' hS; go_simp; (try (simp only [↓IntWalk.iteOmega]; go_simp)); (try simp (disch := omega) only [IntWalk.i64_in]); try with_reducible rfl)); simp only [Act.put, List.setIfInBounds_toArray, List.set_cons_zero, List.set_cons_succ]) | (refine qs_run (v := ?_) (by rfl) ?_ ?_; rotate_left 1; (· (intro j w' hS; go_simp; (try (simp only [↓IntWalk.iteOmega]; go_simp)); (try simp (disch := omega) only [IntWalk.i64_in]); try with_reducible rfl)); simp only [Act.put, List.setIfInBounds_toArray, List.set_cons_zero, List.set_cons_succ]) | (refine qs_mid (v := ?_) (by rfl) ?_ ?_; rotate_left 1; (· (intro j w' hj1 hj2 hS; go_simp; (try (simp only [↓IntWalk.iteOmega]; go_simp)); (try simp (disch := omega) only [IntWalk.i64_in]); try with_reducible rfl)); simp only [Act.put, List.setIfInBounds_toArray, List.set_cons_zero, List.set_cons_succ]) | (refine qs_skip (by rfl) ?_; simp only [Act.put, List.setIfInBounds_toArray, List.set_cons_zero, List.set_cons_succ])))
      refine qs_act ?_
      have Ju := J3
      unfold stepVs at Ju
      have jc := Ju.out.cell (i := 4) rfl
      have jf := Ju.out.free 4
      go_wp2
      obtain ⟨w4, hw4⟩ : ∃ w4, w4 = w3.setCell ⟨w.heap.size + 1, 4, none⟩ (.slice A x.bytes.length c) := ⟨_, rfl⟩
      have K4 := Lib.hid (show Blk w4 w.heap.size 39 (stepVs x (.slice A x.bytes.length c) (.slice A' x.fates.length c')) by rw [hw4]; exact K3.out.else_ (by simp only; omega) _)
      have J4 := Lib.hid (show Blk w4 (w.heap.size + 1) 39 #[.int .u8 x.kind, .int .i64 x.pos, .int .i64 0, .int .i64 0, .slice A x.bytes.length c, .slice none 0 0] by rw [hw4]; exact J3.out.put 4 _)
      have L4 := Lib.hid (show Below w.heap.size w w4 by rw [hw4]; exact bel_put L3.out (by omega) _ _)
      rw [← hw4]
      clear hw4 jc jf Ju
      have Ku := K4
      unfold stepVs at Ku
      have k1 := Ku.out.cell (i := 1) rfl
      have k4 := Ku.out.cell (i := 4) rfl
      refine ⟨⟨k1, k4⟩, ?_⟩
      clear k1 k4 Ku
      (repeat (first | (refine qs_now (v := ?_) (by rfl) ?_ ?_; rotate_left 1; (· (intro w' hS; go_simp; (try (simp only [↓IntWalk.iteOmega]; go_simp)); (try simp (disch := omega) only [IntWalk.i64_in]); try with_reducible rfl)); simp only [Act.put, List.setIfInBounds_toArray, List.set_cons_zero, List.set_cons_succ]) | (refine qs_run (v := ?_) (by rfl) ?_ ?_; rotate_left 1; (· (intro j w' hS; go_simp; (try (simp only [↓IntWalk.iteOmega]; go_simp)); (try simp (disch := omega) only [IntWalk.i64_in]); try with_reducible rfl)); simp only [Act.put, List.setIfInBounds_toArray, List.set_cons_zero, List.set_cons_succ]) | (refine qs_mid (v := ?_) (by rfl) ?_ ?_; rotate_left 1; (· (intro j w' hj1 hj2 hS; go_simp; (try (simp only [↓IntWalk.iteOmega]; go_simp)); (try simp (disch := omega) only [IntWalk.i64_in]); try with_reducible rfl)); simp only [Act.put, List.setIfInBounds_toArray, List.set_cons_zero, List.set_cons_succ]) | (refine qs_skip (by rfl) ?_; simp only [Act.put, List.setIfInBounds_toArray, List.set_cons_zero, List.set_cons_succ])))
      refine qs_nil ?_
      have KX := K4
      have KY := J4
      have LZ := L4
      go_wp2_with (first | (refine wpl_load_blk rfl 39 (.tmp 1) rfl w.heap.size rfl _ _ KX.out _ Tryd.underlying39 rfl 6 infoStep rfl ?_) | (refine wpl_load_blk rfl 39 (.tmp 3) rfl (w.heap.size + 1) rfl _ _ KY.out _ Tryd.underlying39 rfl 6 infoStep rfl ?_))
      refine (same_step x ⟨x.kind, x.pos, 0, 0, x.bytes, []⟩ _ _ _ ⟨A, c, A', c', rfl, HA.out.below LZ.out, HF.out.below LZ.out⟩ ⟨_, _, _, _, rfl, (HA.out.below LZ.out), (RdI.nil _)⟩ (by omega) (by omega) (by simp; try omega) (by simp; try omega)).mono ?_
      rintro ev wz ⟨rfl, hb⟩
      have LE := Lib.hid (below_chain LZ.out hb)
      clear hb
      have HBs := Lib.hid (show bareS x = ⟨x.kind, x.pos, 0, 0, x.bytes, []⟩ by unfold bareS; rw [HKe.out]; simp)
      go_wp2
      go_ret
      refine ⟨?_, LE.out⟩
      rw [HBs.out]
      rfl
    · have HKe := Lib.hid hk
      rw [hk] at k0
      clear hk hk0
      go_wp2
      refine wp_region_qs (fun _ w' => w'.cell? ⟨w.heap.size, 1, none⟩ = some (.int .i64 x.pos) ∧ w'.cell? ⟨w.heap.size, 2, none⟩ = some (.int .i64 x.n)) [(0, some 0), (1, some 0), (2, some 1), (3, some 1), (4, some 0), (5, none), (6, some 1), (7, none)] (by kernel_rfl) (by kernel_rfl) (by kernel_rfl) (by kernel_rfl) (by kernel_rfl) (fun _ _ _ _ _ h => h) ⟨k1, k2⟩ ?_
      simp only [List.map_cons, List.map_nil, List.getD_cons_succ, List.getD_cons_zero]
      (repeat (first | (refine qs_now (v := ?_) (by rfl) ?_ ?_; rotate_left 1; (· (intro w' hS; go_simp; (try (simp only [↓IntWalk.iteOmega]; go_simp)); (try simp (disch := omega) only [IntWalk.i64_in]); try with_reducible rfl)); simp only [Act.put, List.setIfInBounds_toArray, List.set_cons_zero, List.set_cons_succ]) | (refine qs_run (v := ?_) (by rfl) ?_ ?_; rotate_left 1; (· (intro j w' hS; go_simp; (try (simp only [↓IntWalk.iteOmega]; go_simp)); (try simp (disch := omega) only [IntWalk.i64_in]); try with_reducible rfl)); simp only [Act.put, List.setIfInBounds_toArray, List.set_cons_zero, List.set_cons_succ]) | (refine qs_mid (v := ?_) (by rfl) ?_ ?_; rotate_left 1; (· (intro j w' hj1 hj2 hS; go_simp; (try (simp only [↓IntWalk.iteOmega]; go_simp)); (try simp (disch := omega) only [IntWalk.i64_in]); try with_reducible rfl)); simp only [Act.put, List.setIfInBounds_toArray, List.set_cons_zero, List.set_cons_succ]) | (refine qs_skip (by rfl) ?_; simp only [Act.put, List.setIfInBounds_toArray, List.set_cons_zero, List.set_cons_succ])))
      obtain ⟨wq, hwq⟩ : ∃ wq, wq = wa.drew := ⟨_, rfl⟩
      have K2 := Lib.hid (show Blk wq w.heap.size 39 (stepVs x (.slice A x.bytes.length c) (.slice A' x.fates.length c')) by rw [hwq]; exact K1.out.drew)
      have J2 := Lib.hid (show Blk wq (w.heap.size + 1) 39 (stepVs ⟨x.kind, 0, 0, 0, [], []⟩ (.slice none 0 0) (.slice none 0 0)) by rw [hwq]; exact J1.out.drew)
      have L2 := Lib.hid (show Below w.heap.size w wq by rw [hwq]; exact L1.out.drew)
      rw [← hwq]
      clear hwq k0 k1 k2 k3 k4 k5 j1 f1 j2 f2 j3 f3 j4 f4 j5 f5
      refine qs_act ?_
      have Ju := J2
      unfold stepVs at Ju
      have jc := Ju.out.cell (i := 1) rfl
      have jf := Ju.out.free 1
      go_wp2
      obtain ⟨w3, hw3⟩ : ∃ w3, w3 = wq.setCell ⟨w.heap.size + 1, 1, none⟩ (.int .i64 x.pos) := ⟨_, rfl⟩
      have K3 := Lib.hid (show Blk w3 w.heap.size 39 (stepVs x (.slice A x.bytes.length c) (.slice A' x.fates.length c')) by rw [hw3]; exact K2.out.else_ (by simp only; omega) _)
      have J3 := Lib.hid (show Blk w3 (w.heap.size + 1) 39 #[.int .u8 x.kind, .int .i64 x.pos, .int .i64 0, .int .i64 0, .slice none 0 0, .slice none 0 0] by rw [hw3]; exact J2.out.put 1 _)
      have L3 := Lib.hid (show Below w.heap.size w w3 by rw [hw3]; exact bel_put L2.out (by omega) _ _)
      rw [← hw3]
      clear hw3 jc jf Ju
      have Ku := K2
      unfold stepVs at Ku
      have k1 := Ku.out.cell (i := 1) rfl
      have k2 := Ku.out.cell (i := 2) rfl
      refine ⟨⟨k1, k2⟩, ?_⟩
      clear k1 k2 Ku
      (repeat (first | (refine qs_now (v := ?_) (by rfl) ?_ ?_; rotate_left 1; (· (intro w' hS; go_simp; (try (simp only [↓IntWalk.iteOmega]; go_simp)); (try simp (disch := omega) only [IntWalk.i64_in]); try with_reducible rfl)); simp only [Act.put, List.setIfInBounds_toArray, List.set_cons_zero, List.set_cons_succ]) | (refine qs_run (v := ?_) (by rfl) ?_ ?_; rotate_left 1; (· (intro j w' hS; go_simp; (try (simp only [↓IntWalk.iteOmega]; go_simp)); (try simp (disch := omega) only [IntWalk.i64_in]); try with_reducible rfl)); simp only [Act.put, List.setIfInBounds_toArray, List.set_cons_zero, List.set_cons_succ]) | (refine qs_mid (v := ?_) (by rfl) ?_ ?_; rotate_left 1; (· (intro j w' hj1 hj2 hS; go_simp; (try (simp only [↓IntWalk.iteOmega]; go_simp)); (try simp (disch := omega) only [IntWalk.i64_in]); try with_reducible rfl)); simp only [Act.put, List.setIfInBounds_toArray, List.set_cons_zero, List.set_cons_succ]) | (refine qs_skip (by rfl) ?_; simp only [Act.put, List.setIfInBounds_toArray, List.set_cons_zero, List.set_cons_succ])))
      refine qs_act ?_
      have Ju := J3
      unfold stepVs at Ju
      have jc := Ju.out.cell (i := 2) rfl
      have jf := Ju.out.free 2
      go_wp2
      obtain ⟨w4, hw4⟩ : ∃ w4, w4 = w3.setCell ⟨w.heap.size + 1, 2, none⟩ (.int .i64 x.n) := ⟨_, rfl⟩
      have K4 := Lib.hid (show Blk w4 w.heap.size 39 (stepVs x (.slice A x.bytes.length c) (.slice A' x.fates.length c')) by rw [hw4]; exact K3.out.else_ (by simp only; omega) _)
      have J4 := Lib.hid (show Blk w4 (w.heap.size + 1) 39 #[.int .u8 x.kind, .int .i64 x.pos, .int .i64 x.n, .int .i64 0, .slice none 0 0, .slice none 0 0] by rw [hw4]; exact J3.out.put 2 _)
      have L4 := Lib.hid (show Below w.heap.size w w4 by rw [hw4]; exact bel_put L3.out (by omega) _ _)
      rw [← hw4]
      clear hw4 jc jf Ju
      have Ku := K4
      unfold stepVs at Ku
      have k1 := Ku.out.cell (i := 1) rfl
      have k2 := Ku.out.cell (i := 2) rfl
      refine ⟨⟨k1, k2⟩, ?_⟩
      clear k1 k2 Ku
      (repeat (first | (refine qs_now (v := ?_) (by rfl) ?_ ?_; rotate_left 1; (· (intro w' hS; go_simp; (try (simp only [↓IntWalk.iteOmega]; go_simp)); (try simp (disch := omega) only [IntWalk.i64_in]); try with_reducible rfl)); simp only [Act.put, List.setIfInBounds_toArray, List.set_cons_zero, List.set_cons_succ]) | (refine qs_run (v := ?_) (by rfl) ?_ ?_; rotate_left 1; (· (intro j w' hS; go_simp; (try (simp only [↓IntWalk.iteOmega]; go_simp)); (try simp (disch := omega) only [IntWalk.i64_in]); try with_reducible rfl)); simp only [Act.put, List.setIfInBounds_toArray, List.set_cons_zero, List.set_cons_succ]) | (refine qs_mid (v := ?_) (by rfl) ?_ ?_; rotate_left 1; (· (intro j w' hj1 hj2 hS; go_simp; (try (simp only [↓IntWalk.iteOmega]; go_simp)); (try simp (disch := omega) only [IntWalk.i64_in]); try with_reducible rfl)); simp only [Act.put, List.setIfInBounds_toArray, List.set_cons_zero, List.set_cons_succ]) | (refine qs_skip (by rfl) ?_; simp only [Act.put, List.setIfInBounds_toArray, List.set_cons_zero, List.set_cons_succ])))
      refine qs_nil ?_
      have KX := K4
      have KY := J4
      have LZ := L4
      go_wp2_with (first | (refine wpl_load_blk rfl 39 (.tmp 1) rfl w.heap.size rfl _ _ KX.out _ Tryd.underlying39 rfl 6 infoStep rfl ?_) | (refine wpl_load_blk rfl 39 (.tmp 3) rfl (w.heap.size + 1) rfl _ _ KY.out _ Tryd.underlying39 rfl 6 infoStep rfl ?_))
      refine (same_step x ⟨x.kind, x.pos, x.n, 0, [], []⟩ _ _ _ ⟨A, c, A', c', rfl, HA.out.below LZ.out, HF.out.below LZ.out⟩ ⟨_, _, _, _, rfl, (RdI.nil _), (RdI.nil _)⟩ (by omega) (by omega) (by simp; try omega) (by simp; try omega)).mono ?_
      rintro ev wz ⟨rfl, hb⟩
      have LE := Lib.hid (below_chain LZ.out hb)
      clear hb
      have HBs := Lib.hid (show bareS x = ⟨x.kind, x.pos, x.n, 0, [], []⟩ by unfold bareS; rw [HKe.out]; simp)
      go_wp2
      go_ret
      refine ⟨?_, LE.out⟩
      rw [HBs.out]
      rfl
    · have HKe := Lib.hid hk
      rw [hk] at k0
      clear hk hk0
      have KX := K1
      have KY := J1
      have LZ := L1
      go_wp2_with (first | (refine wpl_load_blk rfl 39 (.tmp 1) rfl w.heap.size rfl _ _ KX.out _ Tryd.underlying39 rfl 6 infoStep rfl ?_) | (refine wpl_load_blk rfl 39 (.tmp 3) rfl (w.heap.size + 1) rfl _ _ KY.out _ Tryd.underlying39 rfl 6 infoStep rfl ?_))
      refine (same_step x ⟨x.kind, 0, 0, 0, [], []⟩ _ _ _ ⟨A, c, A', c', rfl, HA.out.below LZ.out, HF.out.below LZ.out⟩ ⟨_, _, _, _, rfl, (RdI.nil _), (RdI.nil _)⟩ (by omega) (by omega) (by simp; try omega) (by simp; try omega)).mono ?_
      rintro ev wz ⟨rfl, hb⟩
      have LE := Lib.hid (below_chain LZ.out hb)
      clear hb
      have HBs := Lib.hid (show bareS x = ⟨x.kind, 0, 0, 0, [], []⟩ by unfold bareS; rw [HKe.out]; simp)
      go_wp2
      go_ret
      refine ⟨?_, LE.out⟩
      rw [HBs.out]
      rfl
    · have HKe := Lib.hid hk
      rw [hk] at k0
      clear hk hk0
      have KX := K1
      have KY := J1
      have LZ := L1
      go_wp2_with (first | (refine wpl_load_blk rfl 39 (.tmp 1) rfl w.heap.size rfl _ _ KX.out _ Tryd.underlying39 rfl 6 infoStep rfl ?_) | (refine wpl_load_blk rfl 39 (.tmp 3) rfl (w.heap.size + 1) rfl _ _ KY.out _ Tryd.underlying39 rfl 6 infoStep rfl ?_))
      refine (same_step x ⟨x.kind, 0, 0, 0, [], []⟩ _ _ _ ⟨A, c, A', c', rfl, HA.out.below LZ.out, HF.out.below LZ.out⟩ ⟨_, _, _, _, rfl, (RdI.nil _), (RdI.nil _)⟩ (by omega) (by omega) (by simp; try omega) (by simp; try omega)).mono ?_
      rintro ev wz ⟨rfl, hb⟩
      have LE := Lib.hid (below_chain LZ.out hb)
      clear hb
      have HBs := Lib.hid (show bareS x = ⟨x.kind, 0, 0, 0, [], []⟩ by unfold bareS; rw [HKe.out]; simp)
      go_wp2
      go_ret
      refine ⟨?_, LE.out⟩
      rw [HBs.out]
      rfl
    · have HKe := Lib.hid hk
      rw [hk] at k0
      clear hk hk0
      have KX := Lib.hid (show Blk (wa.setCell ⟨w.heap.size + 1, 3, none⟩ (.int .i64 x.snap)) w.heap.size 39 (stepVs x (.slice A x.bytes.length c) (.slice A' x.fates.length c')) from K1.out.else_ (by simp only; omega) _)
      have KY := Lib.hid (show Blk (wa.setCell ⟨w.heap.size + 1, 3, none⟩ (.int .i64 x.snap)) (w.heap.size + 1) 39 #[.int .u8 x.kind, .int .i64 0, .int .i64 0, .int .i64 x.snap, .slice none 0 0, .slice none 0 0] from J1.out.put 3 _)
      have LZ := Lib.hid (show Below w.heap.size w (wa.setCell ⟨w.heap.size + 1, 3, none⟩ (.int .i64 x.snap)) from bel_put L1.out (by omega) _ _)
      go_wp2_with (first | (refine wpl_load_blk rfl 39 (.tmp 1) rfl w.heap.size rfl _ _ KX.out _ Tryd.underlying39 rfl 6 infoStep rfl ?_) | (refine wpl_load_blk rfl 39 (.tmp 3) rfl (w.heap.size + 1) rfl _ _ KY.out _ Tryd.underlying39 rfl 6 infoStep rfl ?_))
      refine (same_step x ⟨x.kind, 0, 0, x.snap, [], []⟩ _ _ _ ⟨A, c, A', c', rfl, HA.out.below LZ.out, HF.out.below LZ.out⟩ ⟨_, _, _, _, rfl, (RdI.nil _), (RdI.nil _)⟩ (by omega) (by omega) (by simp; try omega) (by simp; try omega)).mono ?_
      rintro ev wz ⟨rfl, hb⟩
      have LE := Lib.hid (below_chain LZ.out hb)
      clear hb
      have HBs := Lib.hid (show bareS x = ⟨x.kind, 0, 0, x.snap, [], []⟩ by unfold bareS; rw [HKe.out]; simp)
      go_wp2
      go_ret
      refine ⟨?_, LE.out⟩
      rw [HBs.out]
      rfl
    · have HKe := Lib.hid hk
      rw [hk] at k0
      clear hk hk0
      have KX := Lib.hid (show Blk (wa.setCell ⟨w.heap.size + 1, 3, none⟩ (.int .i64 x.snap)) w.heap.size 39 (stepVs x (.slice A x.bytes.length c) (.slice A' x.fates.length c')) from K1.out.else_ (by simp only; omega) _)
      have KY := Lib.hid (show Blk (wa.setCell ⟨w.heap.size + 1, 3, none⟩ (.int .i64 x.snap)) (w.heap.size + 1) 39 #[.int .u8 x.kind, .int .i64 0, .int .i64 0, .int .i64 x.snap, .slice none 0 0, .slice none 0 0] from J1.out.put 3 _)
      have LZ := Lib.hid (show Below w.heap.size w (wa.setCell ⟨w.heap.size + 1, 3, none⟩ (.int .i64 x.snap)) from bel_put L1.out (by omega) _ _)
      go_wp2_with (first | (refine wpl_load_blk rfl 39 (.tmp 1) rfl w.heap.size rfl _ _ KX.out _ Tryd.underlying39 rfl 6 infoStep rfl ?_) | (refine wpl_load_blk rfl 39 (.tmp 3) rfl (w.heap.size + 1) rfl _ _ KY.out _ Tryd.underlying39 rfl 6 infoStep rfl ?_))
      refine (same_step x ⟨x.kind, 0, 0, x.snap, [], []⟩ _ _ _ ⟨A, c, A', c', rfl, HA.out.below LZ.out, HF.out.below LZ.out⟩ ⟨_, _, _, _, rfl, (RdI.nil _), (RdI.nil _)⟩ (by omega) (by omega) (by simp; try omega) (by simp; try omega)).mono ?_
      rintro ev wz ⟨rfl, hb⟩
      have LE := Lib.hid (below_chain LZ.out hb)
      clear hb
      have HBs := Lib.hid (show bareS x = ⟨x.kind, 0, 0, x.snap, [], []⟩ by unfold bareS; rw [HKe.out]; simp)
      go_wp2
      go_ret
      refine ⟨?_, LE.out⟩
      rw [HBs.out]
      rfl
    · have HKe := Lib.hid hk
      rw [hk] at k0
      clear hk hk0
      go_wp2
      refine wp_region_qs (fun _ w' => w'.cell? ⟨w.heap.size, 3, none⟩ = some (.int .i64 x.snap) ∧ w'.cell? ⟨w.heap.size, 1, none⟩ = some (.int .i64 x.pos) ∧ w'.cell? ⟨w.heap.size, 2, none⟩ = some (.int .i64 x.n)) [(0, some 0), (1, some 0), (2, some 1), (3, some 1), (4, some 2), (5, some 2), (6, some 0), (7, none), (8, some 1), (9, none), (10, some 2), (11, none)] (by kernel_rfl) (by kernel_rfl) (by kernel_rfl) (by kernel_rfl) (by kernel_rfl) (fun _ _ _ _ _ h => h) ⟨k3, k1, k2⟩ ?_
      simp only [List.map_cons, List.map_nil, List.getD_cons_succ, List.getD_cons_zero]
      (repeat (first | (refine qs_now (v := ?_) (by rfl) ?_ ?_; rotate_left 1; (· (intro w' hS; go_simp; (try (simp only [↓IntWalk.iteOmega]; go_simp)); (try simp (disch := omega) only [IntWalk.i64_in]); try with_reducible rfl)); simp only [Act.put, List.setIfInBounds_toArray, List.set_cons_zero, List.set_cons_succ]) | (refine qs_run (v := ?_) (by rfl) ?_ ?_; rotate_left 1; (· (intro j w' hS; go_simp; (try (simp only [↓IntWalk.iteOmega]; go_simp)); (try simp (disch := omega) only [IntWalk.i64_in]); try with_reducible rfl)); simp only [Act.put, List.setIfInBounds_toArray, List.set_cons_zero, List.set_cons_succ]) | (refine qs_mid (v := ?_) (by rfl) ?_ ?_; rotate_left 1; (· (intro j w' hj1 hj2 hS; go_simp; (try (simp only [↓IntWalk.iteOmega]; go_simp)); (try simp (disch := omega) only [IntWalk.i64_in]); try with_reducible rfl)); simp only [Act.put, List.setIfInBounds_toArray, List.set_cons_zero, List.set_cons_succ]) | (refine qs_skip (by rfl) ?_; simp only [Act.put, List.setIfInBounds_toArray, List.set_cons_zero, List.set_cons_succ])))
      obtain ⟨wq, hwq⟩ : ∃ wq, wq = wa.drew := ⟨_, rfl⟩
      have K2 := Lib.hid (show Blk wq w.heap.size 39 (stepVs x (.slice A x.bytes.length c) (.slice A' x.fates.length c')) by rw [hwq]; exact K1.out.drew)
      have J2 := Lib.hid (show Blk wq (w.heap.size + 1) 39 (stepVs ⟨x.kind, 0, 0, 0, [], []⟩ (.slice none 0 0) (.slice none 0 0)) by rw [hwq]; exact J1.out.drew)
      have L2 := Lib.hid (show Below w.heap.size w wq by rw [hwq]; exact L1.out.drew)
      rw [← hwq]
      clear hwq k0 k1 k2 k3 k4 k5 j1 f1 j2 f2 j3 f3 j4 f4 j5 f5
      refine qs_act ?_
      have Ju := J2
      unfold stepVs at Ju
      have jc := Ju.out.cell (i := 3) rfl
      have jf := Ju.out.free 3
      go_wp2
      obtain ⟨w3, hw3⟩ : ∃ w3, w3 = wq.setCell ⟨w.heap.size + 1, 3, none⟩ (.int .i64 x.snap) := ⟨_, rfl⟩
      have K3 := Lib.hid (show Blk w3 w.heap.size 39 (stepVs x (.slice A x.bytes.length c) (.slice A' x.fates.length c')) by rw [hw3]; exact K2.out.else_ (by simp only; omega) _)
      have J3 := Lib.hid (show Blk w3 (w.heap.size + 1) 39 #[.int .u8 x.kind, .int .i64 0, .int .i64 0, .int .i64 x.snap, .slice none 0 0, .slice none 0 0] by rw [hw3]; exact J2.out.put 3 _)
      have L3 := Lib.hid (show Below w.heap.size w w3 by rw [hw3]; exact bel_put L2.out (by omega) _ _)
      rw [← hw3]
      clear hw3 jc jf Ju
      have Ku := K2
      unfold stepVs at Ku
      have k3 := Ku.out.cell (i := 3) rfl
      have k1 := Ku.out.cell (i := 1) rfl
      have k2 := Ku.out.cell (i := 2) rfl
      refine ⟨⟨k3, k1, k2⟩, ?_⟩
      clear k3 k1 k2 Ku
      (repeat (first | (refine qs_now (v := ?_) (by rfl) ?_ ?_; rotate_left 1; (· (intro w' hS; go_simp; (try (simp only [↓IntWalk.iteOmega]; go_simp)); (try simp (disch := omega) only [IntWalk.i64_in]); try with_reducible rfl)); simp only [Act.put, List.setIfInBounds_toArray, List.set_cons_zero, List.set_cons_succ]) | (refine qs_run (v := ?_) (by rfl) ?_ ?_; rotate_left 1; (· (intro j w' hS; go_simp; (try (simp only [↓IntWalk.iteOmega]; go_simp)); (try simp (disch := omega) only [IntWalk.i64_in]); try with_reducible rfl)); simp only [Act.put, List.setIfInBounds_toArray, List.set_cons_zero, List.set_cons_succ]) | (refine qs_mid (v := ?_) (by rfl) ?_ ?_; rotate_left 1; (· (intro j w' hj1 hj2 hS; go_simp; (try (simp only [↓IntWalk.iteOmega]; go_simp)); (try simp (disch := omega) only [IntWalk.i64_in]); try with_reducible rfl)); simp only [Act.put, List.setIfInBounds_toArray, List.set_cons_zero, List.set_cons_succ]) | (refine qs_skip (by rfl) ?_; simp only [Act.put, List.setIfInBounds_toArray, List.set_cons_zero, List.set_cons_succ])))
      refine qs_act ?_
      have Ju := J3
      unfold stepVs at Ju
      have jc := Ju.out.cell (i := 1) rfl
      have jf := Ju.out.free 1
      go_wp2
      obtain ⟨w4, hw4⟩ : ∃ w4, w4 = w3.setCell ⟨w.heap.size + 1, 1, none⟩ (.int .i64 x.pos) := ⟨_, rfl⟩
      have K4 := Lib.hid (show Blk w4 w.heap.size 39 (stepVs x (.slice A x.bytes.length c) (.slice A' x.fates.length c')) by rw [hw4]; exact K3.out.else_ (by simp only; omega) _)
      have J4 := Lib.hid (show Blk w4 (w.heap.size + 1) 39 #[.int .u8 x.kind, .int .i64 x.pos, .int .i64 0, .int .i64 x.snap, .slice none 0 0, .slice none 0 0] by rw [hw4]; exact J3.out.put 1 _)
      have L4 := Lib.hid (show Below w.heap.size w w4 by rw [hw4]; exact bel_put L3.out (by omega) _ _)
      rw [← hw4]
      clear hw4 jc jf Ju
      have Ku := K4
      unfold stepVs at Ku
      have k3 := Ku.out.cell (i := 3) rfl
      have k1 := Ku.out.cell (i := 1) rfl
      have k2 := Ku.out.cell (i := 2) rfl
      refine ⟨⟨k3, k1, k2⟩, ?_⟩
      clear k3 k1 k2 Ku
      (repeat (first | (refine qs_now (v := ?_) (by rfl) ?_ ?_; rotate_left 1; (· (intro w' hS; go_simp; (try (simp only [↓IntWalk.iteOmega]; go_simp)); (try simp (disch := omega) only [IntWalk.i64_in]); try with_reducible rfl)); simp only [Act.put, List.setIfInBounds_toArray, List.set_cons_zero, List.set_cons_succ]) | (refine qs_run (v := ?_) (by rfl) ?_ ?_; rotate_left 1; (· (intro j w' hS; go_simp; (try (simp only [↓IntWalk.iteOmega]; go_simp)); (try simp (disch := omega) only [IntWalk.i64_in]); try with_reducible rfl)); simp only [Act.put, List.setIfInBounds_toArray, List.set_cons_zero, List.set_cons_succ]) | (refine qs_mid (v := ?_) (by rfl) ?_ ?_; rotate_left 1; (· (intro j w' hj1 hj2 hS; go_simp; (try (simp only [↓IntWalk.iteOmega]; go_simp)); (try simp (disch := omega) only [IntWalk.i64_in]); try with_reducible rfl)); simp only [Act.put, List.setIfInBounds_toArray, List.set_cons_zero, List.set_cons_succ]) | (refine qs_skip (by rfl) ?_; simp only [Act.put, List.setIfInBounds_toArray, List.set_cons_zero, List.set_cons_succ])))
      refine qs_act ?_
      have Ju := J4
      unfold stepVs at Ju
      have jc := Ju.out.cell (i := 2) rfl
      have jf := Ju.out.free 2
      go_wp2
      obtain ⟨w5, hw5⟩ : ∃ w5, w5 = w4.setCell ⟨w.heap.size + 1, 2, none⟩ (.int .i64 x.n) := ⟨_, rfl⟩
      have K5 := Lib.hid (show Blk w5 w.heap.size 39 (stepVs x (.slice A x.bytes.length c) (.slice A' x.fates.length c')) by rw [hw5]; exact K4.out.else_ (by simp only; omega) _)
      have J5 := Lib.hid (show Blk w5 (w.heap.size + 1) 39 #[.int .u8 x.kind, .int .i64 x.pos, .int .i64 x.n, .int .i64 x.snap, .slice none 0 0, .slice none 0 0] by rw [hw5]; exact J4.out.put 2 _)
      have L5 := Lib.hid (show Below w.heap.size w w5 by rw [hw5]; exact bel_put L4.out (by omega) _ _)
      rw [← hw5]
      clear hw5 jc jf Ju
      have Ku := K5
      unfold stepVs at Ku
      have k3 := Ku.out.cell (i := 3) rfl
      have k1 := Ku.out.cell (i := 1) rfl
      have k2 := Ku.out.cell (i := 2) rfl
      refine ⟨⟨k3, k1, k2⟩, ?_⟩
      clear k3 k1 k2 Ku
      (repeat (first | (refine qs_now (v := ?_) (by rfl) ?_ ?_; rotate_left 1; (· (intro w' hS; go_simp; (try (simp only [↓IntWalk.iteOmega]; go_simp)); (try simp (disch := omega) only [IntWalk.i64_in]); try with_reducible rfl)); simp only [Act.put, List.setIfInBounds_toArray, List.set_cons_zero, List.set_cons_succ]) | (refine qs_run (v := ?_) (by rfl) ?_ ?_; rotate_left 1; (· (intro j w' hS; go_simp; (try (simp only [↓IntWalk.iteOmega]; go_simp)); (try simp (disch := omega) only [IntWalk.i64_in]); try with_reducible rfl)); simp only [Act.put, List.setIfInBounds_toArray, List.set_cons_zero, List.set_cons_succ]) | (refine qs_mid (v := ?_) (by rfl) ?_ ?_; rotate_left 1; (· (intro j w' hj1 hj2 hS; go_simp; (try (simp only [↓IntWalk.iteOmega]; go_simp)); (try simp (disch := omega) only [IntWalk.i64_in]); try with_reducible rfl)); simp only [Act.put, List.setIfInBounds_toArray, List.set_cons_zero, List.set_cons_succ]) | (refine qs_skip (by rfl) ?_; simp only [Act.put, List.setIfInBounds_toArray, List.set_cons_zero, List.set_cons_succ])))
      refine qs_nil ?_
      have KX := K5
      have KY := J5
      have LZ := L5
      go_wp2_with (first | (refine wpl_load_blk rfl 39 (.tmp 1) rfl w.heap.size rfl _ _ KX.out _ Tryd.underlying39 rfl 6 infoStep rfl ?_) | (refine wpl_load_blk rfl 39 (.tmp 3) rfl (w.heap.size + 1) rfl _ _ KY.out _ Tryd.underlying39 rfl 6 infoStep rfl ?_))
      refine (same_step x ⟨x.kind, x.pos, x.n, x.snap, [], []⟩ _ _ _ ⟨A, c, A', c', rfl, HA.out.below LZ.out, HF.out.below LZ.out⟩ ⟨_, _, _, _, rfl, (RdI.nil _), (RdI.nil _)⟩ (by omega) (by omega) (by simp; try omega) (by simp; try omega)).mono ?_
      rintro ev wz ⟨rfl, hb⟩
      have LE := Lib.hid (below_chain LZ.out hb)
      clear hb
      have HBs := Lib.hid (show bareS x = ⟨x.kind, x.pos, x.n, x.snap, [], []⟩ by unfold bareS; rw [HKe.out]; simp)
      go_wp2
      go_ret
      refine ⟨?_, LE.out⟩
      rw [HBs.out]
      rfl
    · have HKe := Lib.hid hk
      rw [hk] at k0
      clear hk hk0
      have KX := Lib.hid (show Blk (wa.setCell ⟨w.heap.size + 1, 2, none⟩ (.int .i64 x.n)) w.heap.size 39 (stepVs x (.slice A x.bytes.length c) (.slice A' x.fates.length c')) from K1.out.else_ (by simp only; omega) _)
      have KY := Lib.hid (show Blk (wa.setCell ⟨w.heap.size + 1, 2, none⟩ (.int .i64 x.n)) (w.heap.size + 1) 39 #[.int .u8 x.kind, .int .i64 0, .int .i64 x.n, .int .i64 0, .slice none 0 0, .slice none 0 0] from J1.out.put 2 _)
      have LZ := Lib.hid (show Below w.heap.size w (wa.setCell ⟨w.heap.size + 1, 2, none⟩ (.int .i64 x.n)) from bel_put L1.out (by omega) _ _)
      go_wp2_with (first | (refine wpl_load_blk rfl 39 (.tmp 1) rfl w.heap.size rfl _ _ KX.out _ Tryd.underlying39 rfl 6 infoStep rfl ?_) | (refine wpl_load_blk rfl 39 (.tmp 3) rfl (w.heap.size + 1) rfl _ _ KY.out _ Tryd.underlying39 rfl 6 infoStep rfl ?_))
      refine (same_step x ⟨x.kind, 0, x.n, 0, [], []⟩ _ _ _ ⟨A, c, A', c', rfl, HA.out.below LZ.out, HF.out.below LZ.out⟩ ⟨_, _, _, _, rfl, (RdI.nil _), (RdI.nil _)⟩ (by omega) (by omega) (by simp; try omega) (by simp; try omega)).mono ?_
      rintro ev wz ⟨rfl, hb⟩
      have LE := Lib.hid (below_chain LZ.out hb)
      clear hb
      have HBs := Lib.hid (show bareS x = ⟨x.kind, 0, x.n, 0, [], []⟩ by unfold bareS; rw [HKe.out]; simp)
      go_wp2
      go_ret
      refine ⟨?_, LE.out⟩
      rw [HBs.out]
      rfl
    · have HKe := Lib.hid hk
      rw [hk] at k0
      clear hk hk0
      have KX := Lib.hid (show Blk (wa.setCell ⟨w.heap.size + 1, 5, none⟩ (.slice A' x.fates.length c')) w.heap.size 39 (stepVs x (.slice A x.bytes.length c) (.slice A' x.fates.length c')) from K1.out.else_ (by simp only; omega) _)
      have KY := Lib.hid (show Blk (wa.setCell ⟨w.heap.size + 1, 5, none⟩ (.slice A' x.fates.length c')) (w.heap.size + 1) 39 #[.int .u8 x.kind, .int .i64 0, .int .i64 0, .int .i64 0, .slice none 0 0, .slice A' x.fates.length c'] from J1.out.put 5 _)
      have LZ := Lib.hid (show Below w.heap.size w (wa.setCell ⟨w.heap.size + 1, 5, none⟩ (.slice A' x.fates.length c')) from bel_put L1.out (by omega) _ _)
      go_wp2_with (first | (refine wpl_load_blk rfl 39 (.tmp 1) rfl w.heap.size rfl _ _ KX.out _ Tryd.underlying39 rfl 6 infoStep rfl ?_) | (refine wpl_load_blk rfl 39 (.tmp 3) rfl (w.heap.size + 1) rfl _ _ KY.out _ Tryd.underlying39 rfl 6 infoStep rfl ?_))
      refine (same_step x ⟨x.kind, 0, 0, 0, [], x.fates⟩ _ _ _ ⟨A, c, A', c', rfl, HA.out.below LZ.out, HF.out.below LZ.out⟩ ⟨_, _, _, _, rfl, (RdI.nil _), (HF.out.below LZ.out)⟩ (by omega) (by omega) (by simp; try omega) (by simp; try omega)).mono ?_
      rintro ev wz ⟨rfl, hb⟩
      have LE := Lib.hid (below_chain LZ.out hb)
      clear hb
      have HBs := Lib.hid (show bareS x = ⟨x.kind, 0, 0, 0, [], x.fates⟩ by unfold bareS; rw [HKe.out]; simp)
      go_wp2
      go_ret
      refine ⟨?_, LE.out⟩
      rw [HBs.out]
      rfl
    · have HKe := Lib.hid hk
      rw [hk] at k0
      clear hk hk0
      have KX := Lib.hid (show Blk (wa.setCell ⟨w.heap.size + 1, 2, none⟩ (.int .i64 x.n)) w.heap.size 39 (stepVs x (.slice A x.bytes.length c) (.slice A' x.fates.length c')) from K1.out.else_ (by simp only; omega) _)
      have KY := Lib.hid (show Blk (wa.setCell ⟨w.heap.size + 1, 2, none⟩ (.int .i64 x.n)) (w.heap.size + 1) 39 #[.int .u8 x.kind, .int .i64 0, .int .i64 x.n, .int .i64 0, .slice none 0 0, .slice none 0 0] from J1.out.put 2 _)
      have LZ := Lib.hid (show Below w.heap.size w (wa.setCell ⟨w.heap.size + 1, 2, none⟩ (.int .i64 x.n)) from bel_put L1.out (by omega) _ _)
      go_wp2_with (first | (refine wpl_load_blk rfl 39 (.tmp 1) rfl w.heap.size rfl _ _ KX.out _ Tryd.underlying39 rfl 6 infoStep rfl ?_) | (refine wpl_load_blk rfl 39 (.tmp 3) rfl (w.heap.size + 1) rfl _ _ KY.out _ Tryd.underlying39 rfl 6 infoStep rfl ?_))
      refine (same_step x ⟨x.kind, 0, x.n, 0, [], []⟩ _ _ _ ⟨A, c, A', c', rfl, HA.out.below LZ.out, HF.out.below LZ.out⟩ ⟨_, _, _, _, rfl, (RdI.nil _), (RdI.nil _)⟩ (by omega) (by omega) (by simp; try omega) (by simp; try omega)).mono ?_
      rintro ev wz ⟨rfl, hb⟩
      have LE := Lib.hid (below_chain LZ.out hb)
      clear hb
      have HBs := Lib.hid (show bareS x = ⟨x.kind, 0, x.n, 0, [], []⟩ by unfold bareS; rw [HKe.out]; simp)
      go_wp2
      go_ret
      refine ⟨?_, LE.out⟩
      rw [HBs.out]
      rfl
    · have HKe := Lib.hid hk
      rw [hk] at k0
      clear hk hk0
      have KX := K1
      have KY := J1
      have LZ := L1
      go_wp2_with (first | (refine wpl_load_blk rfl 39 (.tmp 1) rfl w.heap.size rfl _ _ KX.out _ Tryd.underlying39 rfl 6 infoStep rfl ?_) | (refine wpl_load_blk rfl 39 (.tmp 3) rfl (w.heap.size + 1) rfl _ _ KY.out _ Tryd.underlying39 rfl 6 infoStep rfl ?_))
      refine (same_step x ⟨x.kind, 0, 0, 0, [], []⟩ _ _ _ ⟨A, c, A', c', rfl, HA.out.below LZ.out, HF.out.below LZ.out⟩ ⟨_, _, _, _, rfl, (RdI.nil _), (RdI.nil _)⟩ (by omega) (by omega) (by simp; try omega) (by simp; try omega)).mono ?_
      rintro ev wz ⟨rfl, hb⟩
      have LE := Lib.hid (below_chain LZ.out hb)
      clear hb
      have HBs := Lib.hid (show bareS x = ⟨x.kind, 0, 0, 0, [], []⟩ by unfold bareS; rw [HKe.out]; simp)
      go_wp2
      go_ret
      refine ⟨?_, LE.out⟩
      rw [HBs.out]
      rfl
  · have g : ∀ k : Int, 1 ≤ k → k ≤ 12 → (x.kind == k) = false := fun k h1 h2 => by
      simp only [beq_eq_false_iff_ne, ne_eq]
      rintro rfl
      exact hkk ⟨h1, h2⟩
    have g1 := g 1 (by omega) (by omega)
    have g2 := g 2 (by omega) (by omega)
    have g3 := g 3 (by omega) (by omega)
    have g4 := g 4 (by omega) (by omega)
    have g5 := g 5 (by omega) (by omega)
    have g6 := g 6 (by omega) (by omega)
    have g7 := g 7 (by omega) (by omega)
    have g8 := g 8 (by omega) (by omega)
    have g9 := g 9 (by omega) (by omega)
    have g10 := g 10 (by omega) (by omega)
    have g11 := g 11 (by omega) (by omega)
    have g12 := g 12 (by omega) (by omega)
    have HKe := Lib.hid (show bareS x = ⟨x.kind, 0, 0, 0, [], []⟩ by
      unfold bareS
      have h : ∀ k : Int, 1 ≤ k → k ≤ 12 → x.kind ≠ k := fun k h1 h2 e => hkk ⟨by omega, by omega⟩
      simp [h])
    have KX := K1
    have KY := J1
    have LZ := L1
    clear g hkk hk0
    go_wp2_with (first | (refine wpl_load_blk rfl 39 (.tmp 1) rfl w.heap.size rfl _ _ KX.out _ Tryd.underlying39 rfl 6 infoStep rfl ?_) | (refine wpl_load_blk rfl 39 (.tmp 3) rfl (w.heap.size + 1) rfl _ _ KY.out _ Tryd.underlying39 rfl 6 infoStep rfl ?_))
    refine (same_step x ⟨x.kind, 0, 0, 0, [], []⟩ _ _ _ ⟨A, c, A', c', rfl, HA.out.below LZ.out, HF.out.below LZ.out⟩ ⟨_, _, _, _, rfl, (RdI.nil _), (RdI.nil _)⟩ (by omega) (by omega) (by simp; try omega) (by simp; try omega)).mono ?_
    rintro ev wz ⟨rfl, hb⟩
    have LE := Lib.hid (below_chain LZ.out hb)
    clear hb
    have HBs := HKe
    go_wp2
    go_ret
    refine ⟨?_, LE.out⟩
    rw [HBs.out]
    rfl
end Go.Proofs.YtonpihoidjahhaaDoor
