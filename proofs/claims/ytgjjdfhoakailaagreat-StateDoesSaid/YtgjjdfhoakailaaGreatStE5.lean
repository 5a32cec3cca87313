/-
  entry: Of: walked at snapshots and slices.
-/
import Derived.Test.YtgjjdfhoakailaaGreatStE4
namespace Go.Proofs.YtgjjdfhoakailaaGreat
open Go.RowKit Go.Maps Go.Sort Go.Shelf
set_option linter.unusedVariables false
set_option linter.unusedSimpArgs false

set_option maxRecDepth 100000 in
set_option maxHeartbeats 1000000 in
theorem entOf_3 {w : World} (i : It) (hb : ItB i) (hk : i.kind = 3) : Calls Tryz.prog 102 #[.agg (itC i).toArray] w (EntPost i w) := by
  have HK := Lib.hid hk
  clear hk
  have HB := Lib.hid hb
  clear hb
  obtain ⟨zs0, hz0, hzv⟩ := zero_ent
  have HZ0 := Lib.hid hz0
  have HZV := Lib.hid hzv
  clear hz0 hzv
  go_enter Tryz.func102, Tryz.ntmps102
  go_upto_region 1 with (first
    | ((with_reducible show wpList _ _ _ (_ :: _) _ _); refine wpl_box rfl 56 (.tmp 0) (by rfl) _ (by rfl) ?_; intro w1 hk hg hz; have K1 := Lib.hid hk; have L1 := Lib.hid (bl_n (Below.refl _ w) hg); clear hk hg hz; simp only [Act.put, List.setIfInBounds_toArray, List.set_cons_zero, List.set_cons_succ])
    | ((with_reducible show wpList _ _ _ (_ :: _) _ _); refine wpl_alloc_zero rfl 155 (by rfl) HZV.out ?_; intro w2 hk hg hz; have K2 := Lib.hid (show EntB w2 w1.heap.size from ⟨zs0, HZ0.out, by simpa [Value.cells] using hk⟩); have L2 := Lib.hid (bl_n (Below.refl _ w1) hg); clear hk hg hz; simp only [Act.put, List.setIfInBounds_toArray, List.set_cons_zero, List.set_cons_succ]))
  have I2 := Lib.hid (K1.out.below L2.out K1.out.lt)
  have c0 := itC_cell I2.out (j := 0) (v := .int .u8 i.kind) rfl
  go_upto_region 2 with (first
    | ((with_reducible show wpList _ _ _ (_ :: _) _ _); refine wpl_mk rfl 152 #[(0, .tmp 15)] (by rfl) [(0, .int .u8 i.kind)] (by rfl) _ (built_tk i.kind) ?_; simp only [Act.put, List.setIfInBounds_toArray, List.set_cons_zero, List.set_cons_succ])
    | ((with_reducible show wpList _ _ _ (_ :: _) _ _); refine wpl_mk rfl 155 #[(0, .tmp 16)] (by rfl) [(0, .agg ((entZ i.kind 39).map (Value.int .u8)).toArray)] (by rfl) _ (built_en i.kind) ?_; simp only [Act.put, List.setIfInBounds_toArray, List.set_cons_zero, List.set_cons_succ])
    | ((with_reducible show wpList _ _ _ (_ :: _) _ _); refine wpl_alloc rfl 155 (by rfl) HZV.out 80 (by simp [Value.cells, HZ0.out]) ?_; intro w3 cs hk hc hg hz; have K3 := Lib.hid hk; have C3 := Lib.hid hc; have L3 := Lib.hid (bl_n (Below.refl _ w2) hg); clear hk hc hg hz; simp only [Act.put, List.setIfInBounds_toArray, List.set_cons_zero, List.set_cons_succ])
    | ((with_reducible show wpList _ _ _ (_ :: _) _ _); refine wpl_over rfl 155 (.tmp 4) (.tmp 17) (by rfl) w2.heap.size ((entZ i.kind 79).map (Value.int .u8)) (by rfl) (by rfl) _ cs K3.out (ent_info _ rfl) (by rw [List.length_map, entZ_len, C3.out]) (ent_one _) ?_; intro w4 hk hg hz; have K4 := Lib.hid (show EntB w4 w2.heap.size from ⟨_, rfl, hk⟩); have L4 := Lib.hid (bl_g L3.out hg (Nat.le_refl _)); clear hk hg hz; simp only [Act.put, List.setIfInBounds_toArray, List.set_cons_zero, List.set_cons_succ]))
  have I4 := Lib.hid (I2.out.below L4.out I2.out.lt)
  have R4 := Lib.hid (K2.out.below L4.out)
  refine wp_region_qs (fun _ _ => True) [(0, some 0), (1, some 0), (2, some 0), (3, some 0), (4, some 0), (5, some 0)] (by kernel_rfl) (by kernel_rfl) (by kernel_rfl) (by kernel_rfl) (by kernel_rfl) (fun _ _ _ _ _ h => h) trivial ?_
  simp only [List.map_cons, List.map_nil, List.getD_cons_succ, List.getD_cons_zero]
  (repeat (first | ((first | (refine qs_run (v := .slice (some ⟨w2.heap.size, 1, none⟩) 39 39) (by rfl) (fun j w' hS => by unfold execOp; simp only [Option.map_some, Option.map_none]; show Sem.run _ ((Instr.sliceAt 152 (.pointer (some ⟨w2.heap.size, 0, none⟩)) (some (.int .i64 1)) none none) >>= fun v => pure (Next.value v)) w' = _; rw [Sem.run_bind, slice_tkey]; rfl) ?_) | (refine qs_run (v := .slice (some ⟨w2.heap.size, 40, none⟩) 40 40) (by rfl) (fun j w' hS => by unfold execOp; simp only [Option.map_some, Option.map_none]; show Sem.run _ ((Instr.sliceAt 153 (.pointer (some ⟨w2.heap.size, 40, none⟩)) none none none) >>= fun v => pure (Next.value v)) w' = _; rw [Sem.run_bind, slice_tval]; rfl) ?_)); simp only [Act.put, List.setIfInBounds_toArray, List.set_cons_zero, List.set_cons_succ]) | (refine qs_now (v := ?_) (by rfl) ?_ ?_; rotate_left 1; (· (intro w' hS; go_simp; (try (simp only [↓IntWalk.iteOmega]; go_simp)); (try simp (disch := omega) only [IntWalk.i64_in]); try with_reducible rfl)); simp only [Act.put, List.setIfInBounds_toArray, List.set_cons_zero, List.set_cons_succ]) | (refine qs_run (v := ?_) (by rfl) ?_ ?_; rotate_left 1; (· (intro j w' hS; go_simp; (try (simp only [↓IntWalk.iteOmega]; go_simp)); (try simp (disch := omega) only [IntWalk.i64_in]); try with_reducible rfl)); simp only [Act.put, List.setIfInBounds_toArray, List.set_cons_zero, List.set_cons_succ]) | (refine qs_mid (v := ?_) (by rfl) ?_ ?_; rotate_left 1; (· (intro j w' hj1 hj2 hS; go_simp; (try (simp only [↓IntWalk.iteOmega]; go_simp)); (try simp (disch := omega) only [IntWalk.i64_in]); try with_reducible rfl)); simp only [Act.put, List.setIfInBounds_toArray, List.set_cons_zero, List.set_cons_succ]) | (refine qs_skip (by rfl) ?_; simp only [Act.put, List.setIfInBounds_toArray, List.set_cons_zero, List.set_cons_succ])))
  refine qs_nil ?_
  obtain ⟨w5, hw5⟩ : ∃ v, v = w4.drew := ⟨_, rfl⟩
  have L5 := Lib.hid (show Below w4.heap.size w4 w5 by rw [hw5]; exact (Below.refl _ _).drew)
  rw [← hw5]
  clear hw5
  have I5 := Lib.hid (I4.out.below L5.out I4.out.lt)
  have R5 := Lib.hid (R4.out.below L5.out)
  have E5 := Lib.hid (K4.out.below L5.out)
  clear c0
  have c0 := itC_cell I5.out (j := 0) (v := .int .u8 i.kind) rfl
  go_upto_region 4 with (first
    | ((with_reducible show wpList _ _ _ (_ :: _) _ _); refine wpl_mk rfl 56 #[(0, .tmp 23)] (by rfl) [(0, .int .u8 i.kind)] (by rfl) _ (built_kind i.kind) ?_; simp only [Act.put, List.setIfInBounds_toArray, List.set_cons_zero, List.set_cons_succ])
    | ((with_reducible show wpList _ _ _ (_ :: _) _ _); refine wpl_alloc rfl 56 (by rfl) Tryz.zeroValue56 73 zero_It_len ?_; intro w6 cs hk hc hg hz; have K6 := Lib.hid hk; have C6 := Lib.hid hc; have L6 := Lib.hid (bl_n (Below.refl _ w5) hg); clear hk hc hg hz; simp only [Act.put, List.setIfInBounds_toArray, List.set_cons_zero, List.set_cons_succ])
    | ((with_reducible show wpList _ _ _ (_ :: _) _ _); refine wpl_over rfl 56 (.tmp 7) (.tmp 24) (by rfl) w5.heap.size (itC ⟨i.kind, zKey, zPl, 0, 0, zSl⟩) (by rfl) (by rfl) _ cs K6.out (itC_info _) (by rw [itC_len, C6.out]) (itC_one _) ?_; intro w7 hk hg hz; have K7 := Lib.hid hk; have L7 := Lib.hid (bl_g L6.out hg (Nat.le_refl _)); clear hk hg hz; simp only [Act.put, List.setIfInBounds_toArray, List.set_cons_zero, List.set_cons_succ]))
  have C7 := Lib.hid (show EnC w w.heap.size w1.heap.size w2.heap.size w5.heap.size i ⟨i.kind, zKey, zPl, 0, 0, zSl⟩ w7 from
    ⟨I5.out.below L7.out I5.out.lt, R5.out.below L7.out, E5.out.below L7.out, K7.out, below_chain (below_chain (below_chain (below_chain L1.out L2.out) L4.out) L5.out) L7.out, Nat.le_refl _, I2.out.lt |> fun _ => by have := K1.out.lt; omega, by have := K2.out.lt; omega, by have := K4.out.lt; have := L5.out.size; omega⟩)
  clear I5 R5 E5 K7 L7 K6 C6 L6 L5 I4 R4 K4 L4 K3 C3 L3 I2 K2 L2 K1 L1 HZV HZ0 c0
  generalize w1.heap.size = rb at C7 ⊢
  generalize w2.heap.size = eb at C7 ⊢
  generalize w5.heap.size = bb at C7 ⊢
  obtain ⟨ib, hib⟩ : ∃ b, b = w.heap.size := ⟨_, rfl⟩
  rw [← hib] at C7 ⊢
  clear hib
  have c0 := itC_cell C7.out.item (j := 0) (v := .int .u8 i.kind) rfl
  obtain ⟨fb, hfb⟩ : ∃ b, b = fineI i := ⟨_, rfl⟩
  have HFb := Lib.hid hfb
  obtain ⟨bb0, hbd⟩ : ∃ b, b = bareI i := ⟨_, rfl⟩
  have HBd := Lib.hid hbd
  have HBb := Lib.hid (show ItB bb0 by rw [hbd]; exact bareI_B HB.out)
  clear hfb hbd
  have b1 : (i.kind == 1) = false := by rw [HK.out]; rfl
  have b2 : (i.kind == 2) = false := by rw [HK.out]; rfl
  have b3 : (i.kind == 3) = true := by rw [HK.out]; rfl
  have s0 := itC_cell C7.out.item (it_snap i)
  have f0 : w7.cell? ⟨bb, 37, none⟩ = some (.int .i64 0) := itC_cell C7.out.bare (it_snap _)
  have f1 := C7.out.bare.free 37
  go_upto_region 26 with fail
  obtain ⟨w8, hw8⟩ : ∃ v, v = w7.setCell ⟨bb, 37, none⟩ (.int .i64 i.snap) := ⟨_, rfl⟩
  have C8 := Lib.hid (show EnC w ib rb eb bb i bb0 w8 by
    have h1 : Blk w8 bb 56 (itC ⟨i.kind, zKey, zPl, i.snap, 0, zSl⟩).toArray := by
      have h2 := C7.out.bare.put 37 (.int .i64 i.snap)
      have h3 := put_snap ⟨i.kind, zKey, zPl, 0, 0, zSl⟩ i.snap
      rw [hw8]
      exact h3 ▸ h2
    have h4 : w7.grownBy w8 (some bb) := by rw [hw8]; exact grown_put _ ⟨bb, 37, none⟩ _
    have := C7.out.turnBare h1 h4
    rw [HBd.out]
    unfold bareI
    rw [HK.out] at this ⊢
    exact this)
  rw [← hw8]
  clear hw8 s0 f0 f1 c0
  have s0 := itC_cell C8.out.item (it_snap i)
  have HQ := Lib.hid (show fb = inB i.snap 1 1073741824 by rw [HFb.out]; unfold fineI; rw [HK.out]; rfl)
  go_upto_region 28 with (first
    | (go_at_call 117; refine (ent_w HQ.out _).mono ?_; rintro e w12 ⟨rfl, rfl⟩)
    | (go_at_call 118; refine (four_any C8.out.ent _ _ _ _ (by omega) (by omega)).mono ?_; rintro e w14 ⟨rfl, he, hg⟩; have C14 := Lib.hid (C8.out.turnEnt he hg); clear he hg))
  obtain ⟨wc, hwc⟩ : ∃ v, v = w14 := ⟨_, rfl⟩
  have C := Lib.hid (show EnC w ib rb eb bb i bb0 wc by rw [hwc]; exact C14.out)
  rw [← hwc]
  clear hwc C14 C8 s0 C7
  obtain ⟨zr, hzr, hrb⟩ := C.out.res
  have RB := Lib.hid hrb
  have HZr := Lib.hid hzr
  have HLo := Lib.hid (show w.heap.size ≤ rb by have := C.out.lo; omega)
  clear hrb hzr
  have fq := fun W => it_neq (by have := HBb.out; exact this) HB.out W
  cases fb
  case false =>
    have HRt := Lib.hid (show rightI i = false by unfold rightI; rw [← HFb.out]; rfl)
    clear fq
    go_wp2_with (first
      | ((with_reducible show wpList _ _ _ (_ :: _) _ _); refine wpl_mk rfl 155 #[] (by rfl) [] (by rfl) _ built_en0 ?_; simp only [Act.put, List.setIfInBounds_toArray, List.set_cons_zero, List.set_cons_succ])
      | ((with_reducible show wpList _ _ _ (_ :: _) _ _); refine wpl_over rfl 155 (.tmp 2) (.tmp 155) (by rfl) rb ((entZ 0 79).map (Value.int .u8)) (by rfl) (by rfl) _ _ RB.out (ent_info _ rfl) (by have h := HZr.out; simp [entZ_len, h]) (ent_one _) ?_; intro w90 hk hg hz; have K90 := Lib.hid hk; have L90 := Lib.hid (bl_g C.out.low hg HLo.out); clear hk hg hz; simp only [Act.put, List.setIfInBounds_toArray, List.set_cons_zero, List.set_cons_succ]))
    refine bodyPost_ret (results_blk_tmp rfl _ rb rfl _ _ K90.out _ Tryz.underlying155 rfl 80 (by kernel_rfl) rfl) rfl ?_
    exact ⟨entZ 0 79, rfl, by rw [HRt.out]; rfl, L90.out⟩
  case true =>
    by_cases he : bb0 = i
    · have d1 : decide (bb0 = i) = true := decide_eq_true he
      have HRt := Lib.hid (show rightI i = true by unfold rightI; rw [← HFb.out, ← HBd.out, d1]; rfl)
      clear he
      simp only [d1, Bool.not_true] at fq
      clear d1
      obtain ⟨ze, hze, heb⟩ := C.out.ent
      have ER := Lib.hid (show wc.rangeAt eb 0 (ze.map (Value.int .u8)) by have := heb.range; rwa [toArr] at this)
      have HZe := Lib.hid hze
      clear heb hze
      go_wp2_with (first
        | ((with_reducible show wpList _ _ _ (_ :: _) _ _); refine wpl_guarded (by rfl) ?_; refine wpList_load_mid rfl 56 (.tmp 7) (by rfl) bb 0 (by rfl) (itC bb0) _ C.out.brng Tryz.underlying56 rfl (itC_info _) ?_; simp only [Act.put, List.setIfInBounds_toArray, List.set_cons_zero, List.set_cons_succ])
        | ((with_reducible show wpList _ _ _ (_ :: _) _ _); refine wpl_guarded (by rfl) ?_; refine wpList_load_mid rfl 56 (.tmp 1) (by rfl) ib 0 (by rfl) (itC i) _ C.out.rng Tryz.underlying56 rfl (itC_info _) ?_; simp only [Act.put, List.setIfInBounds_toArray, List.set_cons_zero, List.set_cons_succ])
        | ((with_reducible show wpList _ _ _ (_ :: _) _ _); refine wpList_load_mid rfl 155 (.tmp 4) (by rfl) eb 0 (by rfl) (ze.map (Value.int .u8)) _ ER.out Tryz.underlying155 rfl (ent_info _ HZe.out) ?_; simp only [Act.put, List.setIfInBounds_toArray, List.set_cons_zero, List.set_cons_succ])
        | ((with_reducible show wpList _ _ _ (_ :: _) _ _); refine wpl_over rfl 155 (.tmp 2) (.tmp 156) (by rfl) rb (ze.map (Value.int .u8)) (by rfl) (by rfl) _ _ RB.out (ent_info _ HZe.out) (by have h := HZr.out; have h2 := HZe.out; simp [h, h2]) (ent_one _) ?_; intro w90 hk hg hz; have K90 := Lib.hid hk; have L90 := Lib.hid (bl_g C.out.low hg HLo.out); clear hk hg hz; simp only [Act.put, List.setIfInBounds_toArray, List.set_cons_zero, List.set_cons_succ]))
      refine bodyPost_ret (results_blk_tmp rfl _ rb rfl _ _ K90.out _ Tryz.underlying155 rfl 80 (by kernel_rfl) (by have h2 := HZe.out; simp [h2])) rfl ?_
      exact ⟨ze, HZe.out, by rw [HRt.out]; rfl, L90.out⟩
    · have d1 : decide (bb0 = i) = false := decide_eq_false he
      have HRt := Lib.hid (show rightI i = false by unfold rightI; rw [← HFb.out, ← HBd.out, d1]; rfl)
      clear he
      simp only [d1, Bool.not_false] at fq
      clear d1
      go_wp2_with (first
        | ((with_reducible show wpList _ _ _ (_ :: _) _ _); refine wpl_guarded (by rfl) ?_; refine wpList_load_mid rfl 56 (.tmp 7) (by rfl) bb 0 (by rfl) (itC bb0) _ C.out.brng Tryz.underlying56 rfl (itC_info _) ?_; simp only [Act.put, List.setIfInBounds_toArray, List.set_cons_zero, List.set_cons_succ])
        | ((with_reducible show wpList _ _ _ (_ :: _) _ _); refine wpl_guarded (by rfl) ?_; refine wpList_load_mid rfl 56 (.tmp 1) (by rfl) ib 0 (by rfl) (itC i) _ C.out.rng Tryz.underlying56 rfl (itC_info _) ?_; simp only [Act.put, List.setIfInBounds_toArray, List.set_cons_zero, List.set_cons_succ])
        | ((with_reducible show wpList _ _ _ (_ :: _) _ _); refine wpl_mk rfl 155 #[] (by rfl) [] (by rfl) _ built_en0 ?_; simp only [Act.put, List.setIfInBounds_toArray, List.set_cons_zero, List.set_cons_succ])
        | ((with_reducible show wpList _ _ _ (_ :: _) _ _); refine wpl_over rfl 155 (.tmp 2) (.tmp 155) (by rfl) rb ((entZ 0 79).map (Value.int .u8)) (by rfl) (by rfl) _ _ RB.out (ent_info _ rfl) (by have h := HZr.out; simp [entZ_len, h]) (ent_one _) ?_; intro w90 hk hg hz; have K90 := Lib.hid hk; have L90 := Lib.hid (bl_g C.out.low hg HLo.out); clear hk hg hz; simp only [Act.put, List.setIfInBounds_toArray, List.set_cons_zero, List.set_cons_succ]))
      refine bodyPost_ret (results_blk_tmp rfl _ rb rfl _ _ K90.out _ Tryz.underlying155 rfl 80 (by kernel_rfl) rfl) rfl ?_
      exact ⟨entZ 0 79, rfl, by rw [HRt.out]; rfl, L90.out⟩
end Go.Proofs.YtgjjdfhoakailaaGreat
