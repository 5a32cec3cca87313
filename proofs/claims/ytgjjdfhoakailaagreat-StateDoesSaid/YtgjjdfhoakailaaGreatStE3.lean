/-
  entry: Of: walked: whether an item is right.
-/
import Derived.Test.YtgjjdfhoakailaaGreatStE2
namespace Go.Proofs.YtgjjdfhoakailaaGreat
open Go.RowKit Go.Maps Go.Sort Go.Shelf
set_option linter.unusedVariables false
set_option linter.unusedSimpArgs false

section
variable {w : World} {ops : Array Oper} {rest : List Oper} {o : Oper} {a : Act} {Q : Exit → Act → World → Prop}
theorem wpl_slkey (hg : o.guard = none) (x : Operand) (hop : o.op = .slice 50 x none none none) (b off : Nat) (hx : a.eval x = .pointer (some ⟨b, off, none⟩)) (hK : wpList Tryz.prog ops Q rest (a.put o.dst (.slice (some ⟨b, off, none⟩) 32 32)) w) : wpList Tryz.prog ops Q (o :: rest) a w := by
  refine wpl_val hg _ ?_ hK
  unfold execOp
  simp only [hop, hx, Option.map_none, Sem.run_bind, slice_key, Result.andThen_ok, Sem.run_pure]
end
theorem bareI_B {i : It} (h : ItB i) : ItB (bareI i) := by
  obtain ⟨h0, h1, h2, h3, h4⟩ := h
  have z1 : PlB zPl := by unfold PlB i64B zPl; decide
  have z2 : SlB zSl := by unfold SlB i64B zSl; decide
  have z3 : i64B 0 := by unfold i64B; omega
  unfold bareI
  split
  · exact ⟨h0, h1, z3, z3, z2⟩
  · split
    · exact ⟨h0, z1, h2, h3, h4⟩
    · split
      · exact ⟨h0, z1, h2, z3, z2⟩
      · exact ⟨h0, z1, z3, z3, z2⟩
theorem ent_w {n a b : Int} {q : Bool} (h : q = inB n a b) (w : World) : Calls Tryz.prog 117 #[.int .i64 n, .int .i64 a, .int .i64 b] w fun e w' => e = .returned (.bool q) ∧ w = w' := by
  subst h
  exact entWithin_any n a b w
set_option maxRecDepth 100000 in
set_option maxHeartbeats 1000000 in
theorem entOf_0 {w : World} (i : It) (hb : ItB i) (hk : i.kind ≠ 1 ∧ i.kind ≠ 2 ∧ i.kind ≠ 3) : Calls Tryz.prog 102 #[.agg (itC i).toArray] w (EntPost i w) := by
  have HK := Lib.hid hk
  clear hk
  have HB := Lib.hid hb
  clear hb
  obtain ⟨zs0, hz0, hzv⟩ := zero_ent
  have HZ0 := Lib.hid hz0
  have HZV := Lib.hid hzv
  clear hz0 hzv
  go_enter Tryz.func102, Tryz.ntmps102
  go_upto_region 1 with (first
    | ((with_reducible show wpList _ _ _ (_ :: _) _ _); refine wpl_box rfl 56 (.tmp 0) (by rfl) _ (by rfl) ?_; intro w1 hk hg hz; have K1 := Lib.hid hk; have L1 := Lib.hid (bl_n (Below.refl _ w) hg); clear hk hg hz; simp only [Act.put, List.setIfInBounds_toArray, List.set_cons_zero, List.set_cons_succ])
    | ((with_reducible show wpList _ _ _ (_ :: _) _ _); refine wpl_alloc_zero rfl 155 (by rfl) HZV.out ?_; intro w2 hk hg hz; have K2 := Lib.hid (show EntB w2 w1.heap.size from ⟨zs0, HZ0.out, by simpa [Value.cells] using hk⟩); have L2 := Lib.hid (bl_n (Below.refl _ w1) hg); clear hk hg hz; simp only [Act.put, List.setIfInBounds_toArray, List.set_cons_zero, List.set_cons_succ]))
  have I2 := Lib.hid (K1.out.below L2.out K1.out.lt)
  have c0 := itC_cell I2.out (j := 0) (v := .int .u8 i.kind) rfl
  go_upto_region 2 with (first
    | ((with_reducible show wpList _ _ _ (_ :: _) _ _); refine wpl_mk rfl 152 #[(0, .tmp 15)] (by rfl) [(0, .int .u8 i.kind)] (by rfl) _ (built_tk i.kind) ?_; simp only [Act.put, List.setIfInBounds_toArray, List.set_cons_zero, List.set_cons_succ])
    | ((with_reducible show wpList _ _ _ (_ :: _) _ _); refine wpl_mk rfl 155 #[(0, .tmp 16)] (by rfl) [(0, .agg ((entZ i.kind 39).map (Value.int .u8)).toArray)] (by rfl) _ (built_en i.kind) ?_; simp only [Act.put, List.setIfInBounds_toArray, List.set_cons_zero, List.set_cons_succ])
    | ((with_reducible show wpList _ _ _ (_ :: _) _ _); refine wpl_alloc rfl 155 (by rfl) HZV.out 80 (by simp [Value.cells, HZ0.out]) ?_; intro w3 cs hk hc hg hz; have K3 := Lib.hid hk; have C3 := Lib.hid hc; have L3 := Lib.hid (bl_n (Below.refl _ w2) hg); clear hk hc hg hz; simp only [Act.put, List.setIfInBounds_toArray, List.set_cons_zero, List.set_cons_succ])
    | ((with_reducible show wpList _ _ _ (_ :: _) _ _); refine wpl_over rfl 155 (.tmp 4) (.tmp 17) (by rfl) w2.heap.size ((entZ i.kind 79).map (Value.int .u8)) (by rfl) (by rfl) _ cs K3.out (ent_info _ rfl) (by rw [List.length_map, entZ_len, C3.out]) (ent_one _) ?_; intro w4 hk hg hz; have K4 := Lib.hid (show EntB w4 w2.heap.size from ⟨_, rfl, hk⟩); have L4 := Lib.hid (bl_g L3.out hg (Nat.le_refl _)); clear hk hg hz; simp only [Act.put, List.setIfInBounds_toArray, List.set_cons_zero, List.set_cons_succ]))
  have I4 := Lib.hid (I2.out.below L4.out I2.out.lt)
  have R4 := Lib.hid (K2.out.below L4.out)
  refine wp_region_qs (fun _ _ => True) [(0, some 0), (1, some 0), (2, some 0), (3, some 0), (4, some 0), (5, some 0)] (by kernel_rfl) (by kernel_rfl) (by kernel_rfl) (by kernel_rfl) (by kernel_rfl) (fun _ _ _ _ _ h => h) trivial ?_
  simp only [List.map_cons, List.map_nil, List.getD_cons_succ, List.getD_cons_zero]
  (repeat (first | ((first | (refine qs_run (v := .slice (some ⟨w2.heap.size, 1, none⟩) 39 39) (by rfl) (fun j w' hS => by unfold execOp; simp only [Option.map_some, Option.map_none]; show Sem.run _ ((Instr.sliceAt 152 (.pointer (some ⟨w2.heap.size, 0, none⟩)) (some (.int .i64 1)) none none) >>= fun v => pure (Next.value v)) w' = _; rw [Sem.run_bind, slice_tkey]; rfl) ?_) | (refine qs_run (v := .slice (some ⟨w2.heap.size, 40, none⟩) 40 40) (by rfl) (fun j w' hS => by unfold execOp; simp only [Option.map_some, Option.map_none]; show Sem.run _ ((Instr.sliceAt 153 (.pointer (some ⟨w2.heap.size, 40, none⟩)) none none none) >>= fun v => pure (Next.value v)) w' = _; rw [Sem.run_bind, slice_tval]; rfl) ?_)); simp only [Act.put, List.setIfInBounds_toArray, List.set_cons_zero, List.set_cons_succ]) | (refine qs_now (v := ?_) (by rfl) ?_ ?_; rotate_left 1; (· (intro w' hS; go_simp; (try (simp only [↓IntWalk.iteOmega]; go_simp)); (try simp (disch := omega) only [IntWalk.i64_in]); try with_reducible rfl)); simp only [Act.put, List.setIfInBounds_toArray, List.set_cons_zero, List.set_cons_succ]) | (refine qs_run (v := ?_) (by rfl) ?_ ?_; rotate_left 1; (· (intro j w' hS; go_simp; (try (simp only [↓IntWalk.iteOmega]; go_simp)); (try simp (disch := omega) only [IntWalk.i64_in]); try with_reducible rfl)); simp only [Act.put, List.setIfInBounds_toArray, List.set_cons_zero, List.set_cons_succ]) | (refine qs_mid (v := ?_) (by rfl) ?_ ?_; rotate_left 1; (· (intro j w' hj1 hj2 hS; go_simp; (try (simp only [↓IntWalk.iteOmega]; go_simp)); (try simp (disch := omega) only [IntWalk.i64_in]); try with_reducible rfl)); simp only [Act.put, List.setIfInBounds_toArray, List.set_cons_zero, List.set_cons_succ]) | (refine qs_skip (by rfl) ?_; simp only [Act.put, List.setIfInBounds_toArray, List.set_cons_zero, List.set_cons_succ])))
  refine qs_nil ?_
  obtain ⟨w5, hw5⟩ : ∃ v, v = w4.drew := ⟨_, rfl⟩
  have L5 := Lib.hid (show Below w4.heap.size w4 w5 by rw [hw5]; exact (Below.refl _ _).drew)
  rw [← hw5]
  clear hw5
  have I5 := Lib.hid (I4.out.below L5.out I4.out.lt)
  have R5 := Lib.hid (R4.out.below L5.out)
  have E5 := Lib.hid (K4.out.below L5.out)
  clear c0
  have c0 := itC_cell I5.out (j := 0) (v := .int .u8 i.kind) rfl
  go_upto_region 4 with (first
    | ((with_reducible show wpList _ _ _ (_ :: _) _ _); refine wpl_mk rfl 56 #[(0, .tmp 23)] (by rfl) [(0, .int .u8 i.kind)] (by rfl) _ (built_kind i.kind) ?_; simp only [Act.put, List.setIfInBounds_toArray, List.set_cons_zero, List.set_cons_succ])
    | ((with_reducible show wpList _ _ _ (_ :: _) _ _); refine wpl_alloc rfl 56 (by rfl) Tryz.zeroValue56 73 zero_It_len ?_; intro w6 cs hk hc hg hz; have K6 := Lib.hid hk; have C6 := Lib.hid hc; have L6 := Lib.hid (bl_n (Below.refl _ w5) hg); clear hk hc hg hz; simp only [Act.put, List.setIfInBounds_toArray, List.set_cons_zero, List.set_cons_succ])
    | ((with_reducible show wpList _ _ _ (_ :: _) _ _); refine wpl_over rfl 56 (.tmp 7) (.tmp 24) (by rfl) w5.heap.size (itC ⟨i.kind, zKey, zPl, 0, 0, zSl⟩) (by rfl) (by rfl) _ cs K6.out (itC_info _) (by rw [itC_len, C6.out]) (itC_one _) ?_; intro w7 hk hg hz; have K7 := Lib.hid hk; have L7 := Lib.hid (bl_g L6.out hg (Nat.le_refl _)); clear hk hg hz; simp only [Act.put, List.setIfInBounds_toArray, List.set_cons_zero, List.set_cons_succ]))
  have C7 := Lib.hid (show EnC w w.heap.size w1.heap.size w2.heap.size w5.heap.size i ⟨i.kind, zKey, zPl, 0, 0, zSl⟩ w7 from
    ⟨I5.out.below L7.out I5.out.lt, R5.out.below L7.out, E5.out.below L7.out, K7.out, below_chain (below_chain (below_chain (below_chain L1.out L2.out) L4.out) L5.out) L7.out, Nat.le_refl _, I2.out.lt |> fun _ => by have := K1.out.lt; omega, by have := K2.out.lt; omega, by have := K4.out.lt; have := L5.out.size; omega⟩)
  clear I5 R5 E5 K7 L7 K6 C6 L6 L5 I4 R4 K4 L4 K3 C3 L3 I2 K2 L2 K1 L1 HZV HZ0 c0
  generalize w1.heap.size = rb at C7 ⊢
  generalize w2.heap.size = eb at C7 ⊢
  generalize w5.heap.size = bb at C7 ⊢
  obtain ⟨ib, hib⟩ : ∃ b, b = w.heap.size := ⟨_, rfl⟩
  rw [← hib] at C7 ⊢
  clear hib
  have c0 := itC_cell C7.out.item (j := 0) (v := .int .u8 i.kind) rfl
  obtain ⟨fb, hfb⟩ : ∃ b, b = fineI i := ⟨_, rfl⟩
  have HFb := Lib.hid hfb
  obtain ⟨bb0, hbd⟩ : ∃ b, b = bareI i := ⟨_, rfl⟩
  have HBd := Lib.hid hbd
  have HBb := Lib.hid (show ItB bb0 by rw [hbd]; exact bareI_B HB.out)
  clear hfb hbd
  have b1 : (i.kind == 1) = false := beq_eq_false_iff_ne.2 HK.out.1
  have b2 : (i.kind == 2) = false := beq_eq_false_iff_ne.2 HK.out.2.1
  have b3 : (i.kind == 3) = false := beq_eq_false_iff_ne.2 HK.out.2.2
  have hf : fb = false := by rw [HFb.out]; unfold fineI; rw [if_neg HK.out.1, if_neg HK.out.2.1, if_neg HK.out.2.2]
  have HC := Lib.hid (show EnC w ib rb eb bb i bb0 w7 from by rw [HBd.out]; unfold bareI; rw [if_neg HK.out.1, if_neg HK.out.2.1, if_neg HK.out.2.2]; exact C7.out)
  clear C7
  go_upto_region 28 with fail
  obtain ⟨wc, hwc⟩ : ∃ v, v = w7 := ⟨_, rfl⟩
  have C := Lib.hid (show EnC w ib rb eb bb i bb0 wc by rw [hwc]; exact HC.out)
  rw [← hwc]
  clear hwc HC c0
  obtain ⟨zr, hzr, hrb⟩ := C.out.res
  have RB := Lib.hid hrb
  have HZr := Lib.hid hzr
  have HLo := Lib.hid (show w.heap.size ≤ rb by have := C.out.lo; omega)
  have HRt := Lib.hid (show rightI i = false by unfold rightI; rw [← HFb.out, hf]; rfl)
  clear hrb hzr hf
  go_wp2_with (first
    | ((with_reducible show wpList _ _ _ (_ :: _) _ _); refine wpl_mk rfl 155 #[] (by rfl) [] (by rfl) _ built_en0 ?_; simp only [Act.put, List.setIfInBounds_toArray, List.set_cons_zero, List.set_cons_succ])
    | ((with_reducible show wpList _ _ _ (_ :: _) _ _); refine wpl_over rfl 155 (.tmp 2) (.tmp 155) (by rfl) rb ((entZ 0 79).map (Value.int .u8)) (by rfl) (by rfl) _ _ RB.out (ent_info _ rfl) (by have h := HZr.out; simp [entZ_len, h]) (ent_one _) ?_; intro w90 hk hg hz; have K90 := Lib.hid hk; have L90 := Lib.hid (bl_g C.out.low hg HLo.out); clear hk hg hz; simp only [Act.put, List.setIfInBounds_toArray, List.set_cons_zero, List.set_cons_succ]))
  refine bodyPost_ret (results_blk_tmp rfl _ rb rfl _ _ K90.out _ Tryz.underlying155 rfl 80 (by kernel_rfl) rfl) rfl ?_
  exact ⟨entZ 0 79, rfl, by rw [HRt.out]; rfl, L90.out⟩
end Go.Proofs.YtgjjdfhoakailaaGreat
