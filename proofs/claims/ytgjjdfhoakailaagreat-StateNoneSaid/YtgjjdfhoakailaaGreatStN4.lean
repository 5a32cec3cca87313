/-
  StateNone: walked.
-/
import Derived.Test.YtgjjdfhoakailaaGreatStN3
import Derived.Test.YtgjjdfhoakailaaGreatStN2
namespace Go.Proofs.YtgjjdfhoakailaaGreat
open Go.RowKit Go.Maps Go.Sort Go.Shelf
set_option linter.unusedVariables false
set_option linter.unusedSimpArgs false

theorem info_Op : (Tryz.prog.info? 35).map (fun i => (i.zero, i.size, i.bytes)) = some (some (.agg (opC ⟨0, 0, 0, 0, [], []⟩ none 0 none 0).toArray), 6, 80) := by kernel_rfl
theorem zero_Op_len : (Value.agg (opC ⟨0, 0, 0, 0, [], []⟩ none 0 none 0).toArray).cells.size = 6 := by kernel_rfl
theorem info_PSt : (Tryz.prog.info? 25).map (fun i => (i.zero, i.size, i.bytes)) = some (some (.pointer none), 1, 8) := by kernel_rfl
structure NnI (w : World) (ob lb zb : Nat) (o : OpV) (A : Option Addr) (c : Nat) (B : Option Addr) (d : Nat) (w' : World) : Prop where
  op : Blk w' ob 35 (opC o A c B d).toArray
  row : Blk w' lb 25 #[.pointer none, .pointer (some ⟨zb, 0, none⟩)]
  zero : Blk w' zb 61 (stC 0 none none)
  low : Below w.heap.size w w'
theorem NnI.below {w : World} {ob lb zb : Nat} {o : OpV} {A : Option Addr} {c : Nat} {B : Option Addr} {d : Nat} {w' w'' : World} (h : NnI w ob lb zb o A c B d w') (hb : Below w'.heap.size w' w'') : NnI w ob lb zb o A c B d w'' :=
  ⟨h.op.below hb h.op.lt, h.row.below hb h.row.lt, h.zero.below hb h.zero.lt, below_chain h.low hb⟩
theorem NnI.at_ {w : World} {ob lb zb : Nat} {o : OpV} {A : Option Addr} {c : Nat} {B : Option Addr} {d : Nat} {w' : World} (h : NnI w ob lb zb o A c B d w') {i : Nat} (hi : i < 2) : ∃ v, NoSt w' v ∧ w'.cell? ⟨lb, i, none⟩ = some v := by
  match i, hi with
  | 0, _ => exact ⟨_, .nil, h.row.cell rfl⟩
  | 1, _ => exact ⟨_, .zero h.zero, h.row.cell rfl⟩
theorem NnI.rng {w : World} {ob lb zb : Nat} {o : OpV} {A : Option Addr} {c : Nat} {B : Option Addr} {d : Nat} {w' : World} (h : NnI w ob lb zb o A c B d w') : w'.rangeAt ob 0 (opC o A c B d) := by
  have := h.op.range
  rwa [toArr] at this
theorem new512 (w : World) : Calls Tryz.prog 11 #[.int .i64 512] w (StNewPost 512 w) := st_new 512 (by omega) w
set_option maxRecDepth 100000 in
set_option maxHeartbeats 1000000 in
theorem none_law {w : World} (o : OpV) (A : Option Addr) (c : Nat) (B : Option Addr) (d : Nat) (h0 : OpAt w o A c B d) (hB : OpB o) :
    Calls Tryz.prog 5 #[.agg (opC o A c B d).toArray] w fun e w' => e = .returned (.bool true) ∧ Below w.heap.size w w' := by
  have H0 := Lib.hid h0
  have HB := Lib.hid hB
  clear h0 hB
  go_enter Tryz.func5, Tryz.ntmps5
  go_upto_region 1 with ((with_reducible show wpList _ _ _ (_ :: _) _ _); refine wpl_box rfl 35 (.tmp 0) rfl _ rfl ?_; intro w1 hk hg hz; have K1 := Lib.hid hk; have L1 := Lib.hid (bl_n (Below.refl _ w) hg); clear hk hg hz)
  go_upto_region 3 with (go_at_call 9; refine (awake_any w1).mono ?_; rintro e w2 ⟨rfl, hb⟩; have L2 := Lib.hid (below_chain L1.out hb); have K2 := Lib.hid (K1.out.below hb K1.out.lt); clear hb)
  have R2 := Lib.hid (show w2.rangeAt w.heap.size 0 (opC o A c B d) by have := K2.out.range; rwa [toArr] at this)
  obtain ⟨lb, hlb⟩ : ∃ b, b = lightB [⟨o, A, c, B, d⟩] := ⟨_, rfl⟩
  have HLB := Lib.hid hlb
  clear hlb
  cases lb
  case false =>
    go_wp2_with (first
      | ((with_reducible show wpList _ _ _ (_ :: _) _ _); refine wpList_load_mid rfl 35 (.tmp 1) rfl w.heap.size 0 rfl (opC o A c B d) _ R2.out Tryz.underlying35 rfl (opC_info o A c B d) ?_; simp only [Act.put, List.setIfInBounds_toArray, List.set_cons_zero, List.set_cons_succ])
      | ((with_reducible show wpList _ _ _ (_ :: _) _ _); refine wpl_lit1 rfl 22 35 (.tmp 7) rfl (opC o A c B d) rfl Tryz.underlying22 info_Op zero_Op_len (show 0 < 6 by omega) (show 6 ≤ 1000000 by omega) ?_; intro w3 hk hg hz; have L3 := Lib.hid (bl_n L2.out hg); have K3 := Lib.hid (K2.out.below (bl_n (Below.refl _ w2) hg) K2.out.lt); have HA3 := Lib.hid (show OpsAt w3 (some ⟨w2.heap.size, 0, none⟩) 1 1 [⟨o, A, c, B, d⟩] from ⟨(by have := src_blk (m := 1) (c := 1) (size := 6) hk rfl; simpa [opEC] using this), rfl, (fun e he => by rw [List.mem_singleton] at he; subst he; exact ⟨H0.out.below L3.out, HB.out⟩), by omega⟩); clear hk hg hz; simp only [Act.put, List.setIfInBounds_toArray, List.set_cons_zero, List.set_cons_succ])
      | (go_at_call 10; refine (light_any HA3.out).mono ?_; rintro e w4 ⟨rfl, hb⟩; rewrite [← HLB.out]; have L4 := Lib.hid (below_chain L3.out hb); have K4 := Lib.hid (K3.out.below hb K3.out.lt); clear hb))
    go_ret
    exact ⟨rfl, L4.out⟩
  case true =>
    go_upto_region 5 with (first
      | ((with_reducible show wpList _ _ _ (_ :: _) _ _); refine wpList_load_mid rfl 35 (.tmp 1) rfl w.heap.size 0 rfl (opC o A c B d) _ R2.out Tryz.underlying35 rfl (opC_info o A c B d) ?_; simp only [Act.put, List.setIfInBounds_toArray, List.set_cons_zero, List.set_cons_succ])
      | ((with_reducible show wpList _ _ _ (_ :: _) _ _); refine wpl_lit1 rfl 22 35 (.tmp 7) rfl (opC o A c B d) rfl Tryz.underlying22 info_Op zero_Op_len (show 0 < 6 by omega) (show 6 ≤ 1000000 by omega) ?_; intro w3 hk hg hz; have L3 := Lib.hid (bl_n L2.out hg); have K3 := Lib.hid (K2.out.below (bl_n (Below.refl _ w2) hg) K2.out.lt); have HA3 := Lib.hid (show OpsAt w3 (some ⟨w2.heap.size, 0, none⟩) 1 1 [⟨o, A, c, B, d⟩] from ⟨(by have := src_blk (m := 1) (c := 1) (size := 6) hk rfl; simpa [opEC] using this), rfl, (fun e he => by rw [List.mem_singleton] at he; subst he; exact ⟨H0.out.below L3.out, HB.out⟩), by omega⟩); clear hk hg hz; simp only [Act.put, List.setIfInBounds_toArray, List.set_cons_zero, List.set_cons_succ])
      | (go_at_call 10; refine (light_any HA3.out).mono ?_; rintro e w4 ⟨rfl, hb⟩; rewrite [← HLB.out]; have L4 := Lib.hid (below_chain L3.out hb); have K4 := Lib.hid (K3.out.below hb K3.out.lt); clear hb))
    go_upto_region 7 with (first
      | ((with_reducible show wpList _ _ _ (_ :: _) _ _); refine wpl_mk rfl 61 #[] (by rfl) [] (by rfl) _ built_st0 ?_; simp only [Act.put, List.setIfInBounds_toArray, List.set_cons_zero, List.set_cons_succ])
      | ((with_reducible show wpList _ _ _ (_ :: _) _ _); refine wpl_box rfl 61 (.tmp 11) rfl _ rfl ?_; intro w5 hk hg hz; have K5 := Lib.hid hk; have L5 := Lib.hid (bl_n (Below.refl _ w4) hg); clear hk hg hz; simp only [Act.put, List.setIfInBounds_toArray, List.set_cons_zero, List.set_cons_succ])
      | ((with_reducible show wpList _ _ _ (_ :: _) _ _); refine wpl_lit2 rfl 62 25 (.const (.pointer none)) (.tmp 12) rfl [.pointer none] [.pointer (some ⟨w4.heap.size, 0, none⟩)] rfl (.pointer none) (.pointer (some ⟨w4.heap.size, 0, none⟩)) (by rfl) (by rfl) (by rfl) (by rfl) Tryz.underlying62 info_PSt rfl (by decide) (by decide) ?_; intro w6 hk hg hz; have K6 := Lib.hid hk; have L6 := Lib.hid (bl_n (Below.refl _ w5) hg); clear hk hg hz; simp only [Act.put, List.setIfInBounds_toArray, List.set_cons_zero, List.set_cons_succ]))
    have I6 := Lib.hid (show NnI w w.heap.size w5.heap.size w4.heap.size o A c B d w6 from ⟨K4.out.below (below_chain L5.out L6.out) K4.out.lt, K6.out, K5.out.below L6.out K5.out.lt, below_chain L4.out (below_chain L5.out L6.out)⟩)
    obtain ⟨ob, hob⟩ : ∃ b, b = w.heap.size := ⟨_, rfl⟩
    obtain ⟨qb, hqb⟩ : ∃ b, b = w5.heap.size := ⟨_, rfl⟩
    obtain ⟨zb, hzb⟩ : ∃ b, b = w4.heap.size := ⟨_, rfl⟩
    have hI := I6.out
    rw [← hob, ← hqb, ← hzb] at hI
    rw [← hob, ← hqb]
    have I7 := Lib.hid (show NnI w ob qb zb o A c B d w6 by rw [hob]; rw [hob] at hI; exact hI)
    clear hob hqb hzb hI I6 K6 K5 L5 L6 K4 L4 K3 L3 K2 L2 R2 HA3 K1 L1
    go_loopg [4] 2 (fun k iv wr => ∃ i : Nat, iv = .int .i64 (i : Int) ∧ i ≤ 2 ∧ i + k ≤ 2 ∧ 2 ≤ i + k ∧ NnI w ob qb zb o A c B d wr)
    case atStart => exact ⟨0, rfl, by omega, by omega, by omega, I7.out⟩
    case round =>
      obtain ⟨i, rfl, i1, i2, i3, hI⟩ := hrel
      have J0 := Lib.hid hI
      clear hI I7
      by_cases hi : i < 2
      · have hiI : (i : Int) < 2 := by omega
        obtain ⟨v, hv, hc⟩ := J0.out.at_ hi
        have V0 := Lib.hid hv
        have HCell := Lib.hid (show ∀ W, Below wr.heap.size wr W → W.cell? ⟨qb, i, none⟩ = some v from fun W hW => (World.cell?_of_block (a := ⟨qb, i, none⟩) (hW.block qb J0.out.row.lt)).trans hc)
        clear hv hc
        go_upto_region 9 with fail
        refine wp_region_qs (fun _ w' => w'.cell? ⟨qb, i, none⟩ = some v ∧ w'.rangeAt ob 0 (opC o A c B d)) [(0, some 5), (1, some 5), (2, some 5), (3, some 4), (4, some 4), (5, none), (6, some 5), (7, some 4), (8, some 5), (9, some 5), (10, some 5), (11, some 4), (12, none), (13, some 5), (14, some 5), (15, some 4), (16, some 5), (17, some 5), (18, some 5), (19, some 4), (20, none), (21, some 5), (22, some 5), (23, some 5), (24, some 4), (25, some 5), (26, some 5), (27, some 5), (28, some 4), (29, none), (30, some 5), (31, some 5), (32, some 4), (33, some 5), (34, some 5), (35, some 5), (36, some 4), (37, none), (38, some 5), (39, some 5)] (by kernel_rfl) (by kernel_rfl) (by kernel_rfl) (by kernel_rfl) (by kernel_rfl) (fun _ _ _ _ _ h => h) ⟨HCell.out _ (Below.refl _ _).drew, (J0.out.below (Below.refl _ _).drew).rng⟩ ?_
        simp only [List.map_cons, List.map_nil, List.getD_cons_succ, List.getD_cons_zero]
        (repeat (first | ((refine qs_row (by rfl) 35 (.tmp 1) rfl ob 0 rfl (opC o A c B d) _ (fun j w' _ h2 h => h.2) Tryz.underlying35 rfl (opC_info o A c B d) ?_); simp only [Act.put, List.setIfInBounds_toArray, List.set_cons_zero, List.set_cons_succ]) | (refine qs_now (v := ?_) (by rfl) ?_ ?_; rotate_left 1; (· (intro w' hS; go_simp; (try (simp only [↓IntWalk.iteOmega]; go_simp)); (try simp (disch := omega) only [IntWalk.i64_in]); try with_reducible rfl)); simp only [Act.put, List.setIfInBounds_toArray, List.set_cons_zero, List.set_cons_succ]) | (refine qs_run (v := ?_) (by rfl) ?_ ?_; rotate_left 1; (· (intro j w' hS; go_simp; (try (simp only [↓IntWalk.iteOmega]; go_simp)); (try simp (disch := omega) only [IntWalk.i64_in]); try with_reducible rfl)); simp only [Act.put, List.setIfInBounds_toArray, List.set_cons_zero, List.set_cons_succ]) | (refine qs_mid (v := ?_) (by rfl) ?_ ?_; rotate_left 1; (· (intro j w' hj1 hj2 hS; go_simp; (try (simp only [↓IntWalk.iteOmega]; go_simp)); (try simp (disch := omega) only [IntWalk.i64_in]); try with_reducible rfl)); simp only [Act.put, List.setIfInBounds_toArray, List.set_cons_zero, List.set_cons_succ]) | (refine qs_skip (by rfl) ?_; simp only [Act.put, List.setIfInBounds_toArray, List.set_cons_zero, List.set_cons_succ])))
        refine qs_act ?_
        go_wp2_with (go_at_call 14; refine (none_do (V0.out.below (Below.refl _ _).drew) o A c B d).mono ?_; rintro e w2 ⟨rfl, hb⟩; have B2 := Lib.hid (below_chain (Below.refl _ wr).drew hb); clear hb)
        refine ⟨⟨HCell.out _ B2.out, (J0.out.below B2.out).rng⟩, ?_⟩
        (repeat (first | (refine qs_now (v := ?_) (by rfl) ?_ ?_; rotate_left 1; (· (intro w' hS; go_simp; (try (simp only [↓IntWalk.iteOmega]; go_simp)); (try simp (disch := omega) only [IntWalk.i64_in]); try with_reducible rfl)); simp only [Act.put, List.setIfInBounds_toArray, List.set_cons_zero, List.set_cons_succ]) | (refine qs_run (v := ?_) (by rfl) ?_ ?_; rotate_left 1; (· (intro j w' hS; go_simp; (try (simp only [↓IntWalk.iteOmega]; go_simp)); (try simp (disch := omega) only [IntWalk.i64_in]); try with_reducible rfl)); simp only [Act.put, List.setIfInBounds_toArray, List.set_cons_zero, List.set_cons_succ]) | (refine qs_mid (v := ?_) (by rfl) ?_ ?_; rotate_left 1; (· (intro j w' hj1 hj2 hS; go_simp; (try (simp only [↓IntWalk.iteOmega]; go_simp)); (try simp (disch := omega) only [IntWalk.i64_in]); try with_reducible rfl)); simp only [Act.put, List.setIfInBounds_toArray, List.set_cons_zero, List.set_cons_succ]) | (refine qs_skip (by rfl) ?_; simp only [Act.put, List.setIfInBounds_toArray, List.set_cons_zero, List.set_cons_succ])))
        refine qs_act ?_
        go_wp2_with (go_at_call 21; refine (none_check (V0.out.below B2.out)).mono ?_; rintro e w3 ⟨rfl, rfl⟩)
        refine ⟨⟨HCell.out _ B2.out, (J0.out.below B2.out).rng⟩, ?_⟩
        (repeat (first | (refine qs_now (v := ?_) (by rfl) ?_ ?_; rotate_left 1; (· (intro w' hS; go_simp; (try (simp only [↓IntWalk.iteOmega]; go_simp)); (try simp (disch := omega) only [IntWalk.i64_in]); try with_reducible rfl)); simp only [Act.put, List.setIfInBounds_toArray, List.set_cons_zero, List.set_cons_succ]) | (refine qs_run (v := ?_) (by rfl) ?_ ?_; rotate_left 1; (· (intro j w' hS; go_simp; (try (simp only [↓IntWalk.iteOmega]; go_simp)); (try simp (disch := omega) only [IntWalk.i64_in]); try with_reducible rfl)); simp only [Act.put, List.setIfInBounds_toArray, List.set_cons_zero, List.set_cons_succ]) | (refine qs_mid (v := ?_) (by rfl) ?_ ?_; rotate_left 1; (· (intro j w' hj1 hj2 hS; go_simp; (try (simp only [↓IntWalk.iteOmega]; go_simp)); (try simp (disch := omega) only [IntWalk.i64_in]); try with_reducible rfl)); simp only [Act.put, List.setIfInBounds_toArray, List.set_cons_zero, List.set_cons_succ]) | (refine qs_skip (by rfl) ?_; simp only [Act.put, List.setIfInBounds_toArray, List.set_cons_zero, List.set_cons_succ])))
        refine qs_act ?_
        go_wp2_with (go_at_call 19; refine (none_items (V0.out.below B2.out)).mono ?_; rintro e w3 ⟨rfl, rfl⟩)
        refine ⟨⟨HCell.out _ B2.out, (J0.out.below B2.out).rng⟩, ?_⟩
        (repeat (first | (refine qs_now (v := ?_) (by rfl) ?_ ?_; rotate_left 1; (· (intro w' hS; go_simp; (try (simp only [↓IntWalk.iteOmega]; go_simp)); (try simp (disch := omega) only [IntWalk.i64_in]); try with_reducible rfl)); simp only [Act.put, List.setIfInBounds_toArray, List.set_cons_zero, List.set_cons_succ]) | (refine qs_run (v := ?_) (by rfl) ?_ ?_; rotate_left 1; (· (intro j w' hS; go_simp; (try (simp only [↓IntWalk.iteOmega]; go_simp)); (try simp (disch := omega) only [IntWalk.i64_in]); try with_reducible rfl)); simp only [Act.put, List.setIfInBounds_toArray, List.set_cons_zero, List.set_cons_succ]) | (refine qs_mid (v := ?_) (by rfl) ?_ ?_; rotate_left 1; (· (intro j w' hj1 hj2 hS; go_simp; (try (simp only [↓IntWalk.iteOmega]; go_simp)); (try simp (disch := omega) only [IntWalk.i64_in]); try with_reducible rfl)); simp only [Act.put, List.setIfInBounds_toArray, List.set_cons_zero, List.set_cons_succ]) | (refine qs_skip (by rfl) ?_; simp only [Act.put, List.setIfInBounds_toArray, List.set_cons_zero, List.set_cons_succ])))
        refine qs_act ?_
        go_wp2_with (go_at_call 22; refine (none_index (V0.out.below B2.out)).mono ?_; rintro e w3 ⟨rfl, rfl⟩)
        refine ⟨⟨HCell.out _ B2.out, (J0.out.below B2.out).rng⟩, ?_⟩
        (repeat (first | (refine qs_now (v := ?_) (by rfl) ?_ ?_; rotate_left 1; (· (intro w' hS; go_simp; (try (simp only [↓IntWalk.iteOmega]; go_simp)); (try simp (disch := omega) only [IntWalk.i64_in]); try with_reducible rfl)); simp only [Act.put, List.setIfInBounds_toArray, List.set_cons_zero, List.set_cons_succ]) | (refine qs_run (v := ?_) (by rfl) ?_ ?_; rotate_left 1; (· (intro j w' hS; go_simp; (try (simp only [↓IntWalk.iteOmega]; go_simp)); (try simp (disch := omega) only [IntWalk.i64_in]); try with_reducible rfl)); simp only [Act.put, List.setIfInBounds_toArray, List.set_cons_zero, List.set_cons_succ]) | (refine qs_mid (v := ?_) (by rfl) ?_ ?_; rotate_left 1; (· (intro j w' hj1 hj2 hS; go_simp; (try (simp only [↓IntWalk.iteOmega]; go_simp)); (try simp (disch := omega) only [IntWalk.i64_in]); try with_reducible rfl)); simp only [Act.put, List.setIfInBounds_toArray, List.set_cons_zero, List.set_cons_succ]) | (refine qs_skip (by rfl) ?_; simp only [Act.put, List.setIfInBounds_toArray, List.set_cons_zero, List.set_cons_succ])))
        refine qs_act ?_
        go_wp2_with (go_at_call 26; refine (none_maps (V0.out.below B2.out)).mono ?_; rintro e w3 ⟨rfl, rfl⟩)
        refine ⟨⟨HCell.out _ B2.out, (J0.out.below B2.out).rng⟩, ?_⟩
        (repeat (first | (refine qs_now (v := ?_) (by rfl) ?_ ?_; rotate_left 1; (· (intro w' hS; go_simp; (try (simp only [↓IntWalk.iteOmega]; go_simp)); (try simp (disch := omega) only [IntWalk.i64_in]); try with_reducible rfl)); simp only [Act.put, List.setIfInBounds_toArray, List.set_cons_zero, List.set_cons_succ]) | (refine qs_run (v := ?_) (by rfl) ?_ ?_; rotate_left 1; (· (intro j w' hS; go_simp; (try (simp only [↓IntWalk.iteOmega]; go_simp)); (try simp (disch := omega) only [IntWalk.i64_in]); try with_reducible rfl)); simp only [Act.put, List.setIfInBounds_toArray, List.set_cons_zero, List.set_cons_succ]) | (refine qs_mid (v := ?_) (by rfl) ?_ ?_; rotate_left 1; (· (intro j w' hj1 hj2 hS; go_simp; (try (simp only [↓IntWalk.iteOmega]; go_simp)); (try simp (disch := omega) only [IntWalk.i64_in]); try with_reducible rfl)); simp only [Act.put, List.setIfInBounds_toArray, List.set_cons_zero, List.set_cons_succ]) | (refine qs_skip (by rfl) ?_; simp only [Act.put, List.setIfInBounds_toArray, List.set_cons_zero, List.set_cons_succ])))
        refine qs_nil ?_
        go_wp2_with fail
        go_roundg (gk - 1)
        case measure => omega
        case rel => exact ⟨i + 1, by congr 1, by omega, by omega, by omega, J0.out.below B2.out⟩
      · have hiI : ¬ (i : Int) < 2 := by omega
        go_wp2_with (first
          | (go_at_call 11; (with_reducible show Calls _ _ #[Value.int .i64 0] _ _); refine (st_none 0 (by omega) _).mono ?_; rintro e w3 ⟨rfl, rfl⟩)
          | (go_at_call 11; (with_reducible show Calls _ _ #[Value.int .i64 513] _ _); refine (st_none 513 (by omega) _).mono ?_; rintro e w3 ⟨rfl, rfl⟩)
          | (go_at_call 11; (with_reducible show Calls _ _ #[Value.int .i64 512] _ _); refine (new512 _).mono ?_; rintro e w4 ⟨si, xi, bx, mi, bs, rfl, _, hb, _⟩; have B4 := Lib.hid hb; clear hb))
        go_ret
        exact ⟨rfl, below_chain J0.out.low B4.out⟩
end Go.Proofs.YtgjjdfhoakailaaGreat
