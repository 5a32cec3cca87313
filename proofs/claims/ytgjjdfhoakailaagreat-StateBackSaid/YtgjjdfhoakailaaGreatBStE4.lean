/-
  what this claim needs of: StE4, StE5, StE6 (written by cut.py).
-/
import Derived.Test.YtgjjdfhoakailaaGreatBStE1
namespace Go.Proofs.YtgjjdfhoakailaaGreat
open Go.RowKit Go.Maps Go.Sort Go.Shelf
set_option linter.unusedVariables false
set_option linter.unusedSimpArgs false

theorem wpl_guarded {P : Program} {ops : Array Oper} {rest : List Oper} {o : Oper} {a : Act} {w : World} {Q : Exit → Act → World → Prop} (hw : Region.wanted o (yielded ops a.tmps) = true) (h : wpList P ops Q ({ o with guard := none } :: rest) a w) : wpList P ops Q (o :: rest) a w := by
  have hw' : Region.wanted { o with guard := none } (yielded ops a.tmps) = true := rfl
  unfold wpList at h ⊢
  rw [if_pos hw'] at h
  rw [if_pos hw]
  exact h
theorem idx_arrE {P : Program} (t e : TypeId) (n : Nat) (cs : Array Value) (k : IntKind) (i : Nat) (v : Value) (h : P.underlying t = some (.array n e)) (hs : ∀ w, (sizeOf e).run P w = .ok 1 w) (ha : ∀ w, (isAgg e).run P w = .ok false w) (hn : i < n) (hv : cs[i]? = some v) (w : World) :
    (Instr.index t (.agg cs) (.int k (i : Int))).run P w = .ok v w := by
  have h1 : (0 : Int) ≤ (i : Int) ∧ (i : Int) < (n : Int) := by omega
  simp [Instr.index, run_underlying h, asIntOf, h1, go_sem, part]
  rw [if_pos hn, hs]
  simp only [Result.andThen]
  rw [ha]
  simp [hv, go_sem]
theorem size_i (w : World) : (sizeOf 3).run Tryz.prog w = .ok 1 w := by kernel_rfl
theorem agg_i (w : World) : (isAgg 3).run Tryz.prog w = .ok false w := by kernel_rfl
set_option maxRecDepth 100000 in
set_option maxHeartbeats 1000000 in
theorem entOf_1 {w : World} (i : It) (hb : ItB i) (hk1 : i.kind = 1) : Calls Tryz.prog 102 #[.agg (itC i).toArray] w (EntPost i w) := by
  have HK := Lib.hid hk1
  clear hk1
  have HB := Lib.hid hb
  clear hb
  obtain ⟨zs0, hz0, hzv⟩ := zero_ent
  have HZ0 := Lib.hid hz0
  have HZV := Lib.hid hzv
  clear hz0 hzv
  go_enter Tryz.func102, Tryz.ntmps102
  go_upto_region 1 with (first
    | ((with_reducible show wpList _ _ _ (_ :: _) _ _); refine wpl_box rfl 56 (.tmp 0) (by rfl) _ (by rfl) ?_; intro w1 hk hg hz; have K1 := Lib.hid hk; have L1 := Lib.hid (bl_n (Below.refl _ w) hg); clear hk hg hz; simp only [Act.put, List.setIfInBounds_toArray, List.set_cons_zero, List.set_cons_succ])
    | ((with_reducible show wpList _ _ _ (_ :: _) _ _); refine wpl_alloc_zero rfl 155 (by rfl) HZV.out ?_; intro w2 hk hg hz; have K2 := Lib.hid (show EntB w2 w1.heap.size from ⟨zs0, HZ0.out, by simpa [Value.cells] using hk⟩); have L2 := Lib.hid (bl_n (Below.refl _ w1) hg); clear hk hg hz; simp only [Act.put, List.setIfInBounds_toArray, List.set_cons_zero, List.set_cons_succ]))
  have I2 := Lib.hid (K1.out.below L2.out K1.out.lt)
  have c0 := itC_cell I2.out (j := 0) (v := .int .u8 i.kind) rfl
  go_upto_region 2 with (first
    | ((with_reducible show wpList _ _ _ (_ :: _) _ _); refine wpl_mk rfl 152 #[(0, .tmp 15)] (by rfl) [(0, .int .u8 i.kind)] (by rfl) _ (built_tk i.kind) ?_; simp only [Act.put, List.setIfInBounds_toArray, List.set_cons_zero, List.set_cons_succ])
    | ((with_reducible show wpList _ _ _ (_ :: _) _ _); refine wpl_mk rfl 155 #[(0, .tmp 16)] (by rfl) [(0, .agg ((entZ i.kind 39).map (Value.int .u8)).toArray)] (by rfl) _ (built_en i.kind) ?_; simp only [Act.put, List.setIfInBounds_toArray, List.set_cons_zero, List.set_cons_succ])
    | ((with_reducible show wpList _ _ _ (_ :: _) _ _); refine wpl_alloc rfl 155 (by rfl) HZV.out 80 (by simp [Value.cells, HZ0.out]) ?_; intro w3 cs hk hc hg hz; have K3 := Lib.hid hk; have C3 := Lib.hid hc; have L3 := Lib.hid (bl_n (Below.refl _ w2) hg); clear hk hc hg hz; simp only [Act.put, List.setIfInBounds_toArray, List.set_cons_zero, List.set_cons_succ])
    | ((with_reducible show wpList _ _ _ (_ :: _) _ _); refine wpl_over rfl 155 (.tmp 4) (.tmp 17) (by rfl) w2.heap.size ((entZ i.kind 79).map (Value.int .u8)) (by rfl) (by rfl) _ cs K3.out (ent_info _ rfl) (by rw [List.length_map, entZ_len, C3.out]) (ent_one _) ?_; intro w4 hk hg hz; have K4 := Lib.hid (show EntB w4 w2.heap.size from ⟨_, rfl, hk⟩); have L4 := Lib.hid (bl_g L3.out hg (Nat.le_refl _)); clear hk hg hz; simp only [Act.put, List.setIfInBounds_toArray, List.set_cons_zero, List.set_cons_succ]))
  have I4 := Lib.hid (I2.out.below L4.out I2.out.lt)
  have R4 := Lib.hid (K2.out.below L4.out)
  refine wp_region_qs (fun _ _ => True) [(0, some 0), (1, some 0), (2, some 0), (3, some 0), (4, some 0), (5, some 0)] (by kernel_rfl) (by kernel_rfl) (by kernel_rfl) (by kernel_rfl) (by kernel_rfl) (fun _ _ _ _ _ h => h) trivial ?_
  simp only [List.map_cons, List.map_nil, List.getD_cons_succ, List.getD_cons_zero]
  (repeat (first | ((first | (refine qs_run (v := .slice (some ⟨w2.heap.size, 1, none⟩) 39 39) (by rfl) (fun j w' hS => by unfold execOp; simp only [Option.map_some, Option.map_none]; show Sem.run _ ((Instr.sliceAt 152 (.pointer (some ⟨w2.heap.size, 0, none⟩)) (some (.int .i64 1)) none none) >>= fun v => pure (Next.value v)) w' = _; rw [Sem.run_bind, slice_tkey]; rfl) ?_) | (refine qs_run (v := .slice (some ⟨w2.heap.size, 40, none⟩) 40 40) (by rfl) (fun j w' hS => by unfold execOp; simp only [Option.map_some, Option.map_none]; show Sem.run _ ((Instr.sliceAt 153 (.pointer (some ⟨w2.heap.size, 40, none⟩)) none none none) >>= fun v => pure (Next.value v)) w' = _; rw [Sem.run_bind, slice_tval]; rfl) ?_)); simp only [Act.put, List.setIfInBounds_toArray, List.set_cons_zero, List.set_cons_succ]) | (refine qs_now (v := ?_) (by rfl) ?_ ?_; rotate_left 1; (· (intro w' hS; go_simp; (try (simp only [↓IntWalk.iteOmega]; go_simp)); (try simp (disch := omega) only [IntWalk.i64_in]); try with_reducible rfl)); simp only [Act.put, List.setIfInBounds_toArray, List.set_cons_zero, List.set_cons_succ]) | (refine qs_run (v := ?_) (by rfl) ?_ ?_; rotate_left 1; (· (intro j w' hS; go_simp; (try (simp only [↓IntWalk.iteOmega]; go_simp)); (try simp (disch := omega) only [IntWalk.i64_in]); try with_reducible rfl)); simp only [Act.put, List.setIfInBounds_toArray, List.set_cons_zero, List.set_cons_succ]) | (refine qs_mid (v := ?_) (by rfl) ?_ ?_; rotate_left 1; (· (intro j w' hj1 hj2 hS; go_simp; (try (simp only [↓IntWalk.iteOmega]; go_simp)); (try simp (disch := omega) only [IntWalk.i64_in]); try with_reducible rfl)); simp only [Act.put, List.setIfInBounds_toArray, List.set_cons_zero, List.set_cons_succ]) | (refine qs_skip (by rfl) ?_; simp only [Act.put, List.setIfInBounds_toArray, List.set_cons_zero, List.set_cons_succ])))
  refine qs_nil ?_
  obtain ⟨w5, hw5⟩ : ∃ v, v = w4.drew := ⟨_, rfl⟩
  have L5 := Lib.hid (show Below w4.heap.size w4 w5 by rw [hw5]; exact (Below.refl _ _).drew)
  rw [← hw5]
  clear hw5
  have I5 := Lib.hid (I4.out.below L5.out I4.out.lt)
  have R5 := Lib.hid (R4.out.below L5.out)
  have E5 := Lib.hid (K4.out.below L5.out)
  clear c0
  have c0 := itC_cell I5.out (j := 0) (v := .int .u8 i.kind) rfl
  go_upto_region 4 with (first
    | ((with_reducible show wpList _ _ _ (_ :: _) _ _); refine wpl_mk rfl 56 #[(0, .tmp 23)] (by rfl) [(0, .int .u8 i.kind)] (by rfl) _ (built_kind i.kind) ?_; simp only [Act.put, List.setIfInBounds_toArray, List.set_cons_zero, List.set_cons_succ])
    | ((with_reducible show wpList _ _ _ (_ :: _) _ _); refine wpl_alloc rfl 56 (by rfl) Tryz.zeroValue56 73 zero_It_len ?_; intro w6 cs hk hc hg hz; have K6 := Lib.hid hk; have C6 := Lib.hid hc; have L6 := Lib.hid (bl_n (Below.refl _ w5) hg); clear hk hc hg hz; simp only [Act.put, List.setIfInBounds_toArray, List.set_cons_zero, List.set_cons_succ])
    | ((with_reducible show wpList _ _ _ (_ :: _) _ _); refine wpl_over rfl 56 (.tmp 7) (.tmp 24) (by rfl) w5.heap.size (itC ⟨i.kind, zKey, zPl, 0, 0, zSl⟩) (by rfl) (by rfl) _ cs K6.out (itC_info _) (by rw [itC_len, C6.out]) (itC_one _) ?_; intro w7 hk hg hz; have K7 := Lib.hid hk; have L7 := Lib.hid (bl_g L6.out hg (Nat.le_refl _)); clear hk hg hz; simp only [Act.put, List.setIfInBounds_toArray, List.set_cons_zero, List.set_cons_succ]))
  have C7 := Lib.hid (show EnC w w.heap.size w1.heap.size w2.heap.size w5.heap.size i ⟨i.kind, zKey, zPl, 0, 0, zSl⟩ w7 from
    ⟨I5.out.below L7.out I5.out.lt, R5.out.below L7.out, E5.out.below L7.out, K7.out, below_chain (below_chain (below_chain (below_chain L1.out L2.out) L4.out) L5.out) L7.out, Nat.le_refl _, I2.out.lt |> fun _ => by have := K1.out.lt; omega, by have := K2.out.lt; omega, by have := K4.out.lt; have := L5.out.size; omega⟩)
  clear I5 R5 E5 K7 L7 K6 C6 L6 L5 I4 R4 K4 L4 K3 C3 L3 I2 K2 L2 K1 L1 HZV HZ0 c0
  generalize w1.heap.size = rb at C7 ⊢
  generalize w2.heap.size = eb at C7 ⊢
  generalize w5.heap.size = bb at C7 ⊢
  obtain ⟨ib, hib⟩ : ∃ b, b = w.heap.size := ⟨_, rfl⟩
  rw [← hib] at C7 ⊢
  clear hib
  have c0 := itC_cell C7.out.item (j := 0) (v := .int .u8 i.kind) rfl
  obtain ⟨fb, hfb⟩ : ∃ b, b = fineI i := ⟨_, rfl⟩
  have HFb := Lib.hid hfb
  obtain ⟨bb0, hbd⟩ : ∃ b, b = bareI i := ⟨_, rfl⟩
  have HBd := Lib.hid hbd
  have HBb := Lib.hid (show ItB bb0 by rw [hbd]; exact bareI_B HB.out)
  clear hfb hbd
  have b1 : (i.kind == 1) = true := beq_iff_eq.2 HK.out
  go_upto_region 7 with fail
  refine wp_region_qs (fun _ w' => w'.rangeAt ib 1 (keyL i.key) ∧ w'.rangeAt ib 33 (plC i.pl)) [(0, some 0), (1, some 0), (2, some 1), (3, some 1), (4, some 0), (5, none), (6, some 1), (7, none)] (by kernel_rfl) (by kernel_rfl) (by kernel_rfl) (by kernel_rfl) (by kernel_rfl) (fun _ _ _ _ _ h => h) ⟨C7.out.item.drew.part 1 _ (it_key i), C7.out.item.drew.part 33 _ (it_pl i)⟩ ?_
  simp only [List.map_cons, List.map_nil, List.getD_cons_succ, List.getD_cons_zero]
  (repeat (first | ((first | (refine qs_row (by rfl) 50 (.tmp 29) (by rfl) ib 1 (by rfl) (keyL i.key) _ (fun j w' _ h2 h => h.1) Tryz.underlying50 rfl (keyL_info _) ?_) | (refine qs_row (by rfl) 52 (.tmp 31) (by rfl) ib 33 (by rfl) (plC i.pl) _ (fun j w' _ h2 h => h.2) Tryz.underlying52 rfl (plC_info _) ?_)); simp only [Act.put, List.setIfInBounds_toArray, List.set_cons_zero, List.set_cons_succ]) | (refine qs_now (v := ?_) (by rfl) ?_ ?_; rotate_left 1; (· (intro w' hS; go_simp; (try (simp only [↓IntWalk.iteOmega]; go_simp)); (try simp (disch := omega) only [IntWalk.i64_in]); try with_reducible rfl)); simp only [Act.put, List.setIfInBounds_toArray, List.set_cons_zero, List.set_cons_succ]) | (refine qs_run (v := ?_) (by rfl) ?_ ?_; rotate_left 1; (· (intro j w' hS; go_simp; (try (simp only [↓IntWalk.iteOmega]; go_simp)); (try simp (disch := omega) only [IntWalk.i64_in]); try with_reducible rfl)); simp only [Act.put, List.setIfInBounds_toArray, List.set_cons_zero, List.set_cons_succ]) | (refine qs_mid (v := ?_) (by rfl) ?_ ?_; rotate_left 1; (· (intro j w' hj1 hj2 hS; go_simp; (try (simp only [↓IntWalk.iteOmega]; go_simp)); (try simp (disch := omega) only [IntWalk.i64_in]); try with_reducible rfl)); simp only [Act.put, List.setIfInBounds_toArray, List.set_cons_zero, List.set_cons_succ]) | (refine qs_skip (by rfl) ?_; simp only [Act.put, List.setIfInBounds_toArray, List.set_cons_zero, List.set_cons_succ])))
  refine qs_act ?_
  go_wp2_with ((with_reducible show wpList _ _ _ (_ :: _) _ _); refine wpl_put rfl 50 (.tmp 33) (.tmp 30) (by rfl) bb 1 (keyL i.key) (by rfl) (by rfl) 56 _ C7.out.bare.drew (keyL_info _) (by simp [itC_len, keyL_len]) (keyL_one _) ?_; intro w8 hk hg hz; rw [put_key] at hk; have C8 := Lib.hid ((C7.out.below (Below.refl _ _).drew).turnBare hk hg); clear hk hg hz; simp only [Act.put, List.setIfInBounds_toArray, List.set_cons_zero, List.set_cons_succ])
  refine ⟨⟨C8.out.item.part 1 _ (it_key i), C8.out.item.part 33 _ (it_pl i)⟩, ?_⟩
  (repeat (first | ((first | (refine qs_row (by rfl) 50 (.tmp 29) (by rfl) ib 1 (by rfl) (keyL i.key) _ (fun j w' _ h2 h => h.1) Tryz.underlying50 rfl (keyL_info _) ?_) | (refine qs_row (by rfl) 52 (.tmp 31) (by rfl) ib 33 (by rfl) (plC i.pl) _ (fun j w' _ h2 h => h.2) Tryz.underlying52 rfl (plC_info _) ?_)); simp only [Act.put, List.setIfInBounds_toArray, List.set_cons_zero, List.set_cons_succ]) | (refine qs_now (v := ?_) (by rfl) ?_ ?_; rotate_left 1; (· (intro w' hS; go_simp; (try (simp only [↓IntWalk.iteOmega]; go_simp)); (try simp (disch := omega) only [IntWalk.i64_in]); try with_reducible rfl)); simp only [Act.put, List.setIfInBounds_toArray, List.set_cons_zero, List.set_cons_succ]) | (refine qs_run (v := ?_) (by rfl) ?_ ?_; rotate_left 1; (· (intro j w' hS; go_simp; (try (simp only [↓IntWalk.iteOmega]; go_simp)); (try simp (disch := omega) only [IntWalk.i64_in]); try with_reducible rfl)); simp only [Act.put, List.setIfInBounds_toArray, List.set_cons_zero, List.set_cons_succ]) | (refine qs_mid (v := ?_) (by rfl) ?_ ?_; rotate_left 1; (· (intro j w' hj1 hj2 hS; go_simp; (try (simp only [↓IntWalk.iteOmega]; go_simp)); (try simp (disch := omega) only [IntWalk.i64_in]); try with_reducible rfl)); simp only [Act.put, List.setIfInBounds_toArray, List.set_cons_zero, List.set_cons_succ]) | (refine qs_skip (by rfl) ?_; simp only [Act.put, List.setIfInBounds_toArray, List.set_cons_zero, List.set_cons_succ])))
  refine qs_act ?_
  go_wp2_with ((with_reducible show wpList _ _ _ (_ :: _) _ _); refine wpl_put rfl 52 (.tmp 34) (.tmp 32) (by rfl) bb 33 (plC i.pl) (by rfl) (by rfl) 56 _ C8.out.bare (plC_info _) (by simp [itC_len, plC_len]) (plC_one _) ?_; intro w9 hk hg hz; rw [put_pl] at hk; have C9 := Lib.hid (show EnC w ib rb eb bb i bb0 w9 from by have := C8.out.turnBare hk hg; rw [HBd.out]; unfold bareI; rw [if_pos HK.out]; exact this); clear hk hg hz; simp only [Act.put, List.setIfInBounds_toArray, List.set_cons_zero, List.set_cons_succ])
  refine ⟨⟨C9.out.item.part 1 _ (it_key i), C9.out.item.part 33 _ (it_pl i)⟩, ?_⟩
  refine qs_nil ?_
  clear C8 C7 c0
  have RP := Lib.hid (C9.out.item.part 33 _ (it_pl i))
  go_upto_region 9 with (first
    | ((with_reducible show wpList _ _ _ (_ :: _) _ _); refine wpList_load_mid rfl 52 (.tmp 35) (by rfl) ib 33 (by rfl) (plC i.pl) _ RP.out Tryz.underlying52 rfl (plC_info _) ?_; simp only [Act.put, List.setIfInBounds_toArray, List.set_cons_zero, List.set_cons_succ])
    | ((with_reducible show wpList _ _ _ (_ :: _) _ _); refine wpl_alloc rfl 52 (by rfl) Tryz.zeroValue52 4 rfl ?_; intro w10 cs hk hc hg hz; have K10 := Lib.hid hk; have D10 := Lib.hid hc; have L10 := Lib.hid (bl_n (Below.refl _ w9) hg); clear hk hc hg hz; simp only [Act.put, List.setIfInBounds_toArray, List.set_cons_zero, List.set_cons_succ])
    | ((with_reducible show wpList _ _ _ (_ :: _) _ _); refine wpl_over rfl 52 (.tmp 9) (.tmp 36) (by rfl) w9.heap.size (plC i.pl) (by rfl) (by rfl) _ cs K10.out (plC_info _) (by rw [D10.out]; rfl) (plC_one _) ?_; intro w11 hk hg hz; have K11 := Lib.hid hk; have L11 := Lib.hid (bl_g L10.out hg (Nat.le_refl _)); clear hk hg hz; simp only [Act.put, List.setIfInBounds_toArray, List.set_cons_zero, List.set_cons_succ]))
  have C11 := Lib.hid (C9.out.below L11.out)
  have p0 := K11.out.cell (i := 0) (v := .int .i64 i.pl.pos) rfl
  have p1 := K11.out.cell (i := 1) (v := .int .i64 i.pl.sec) rfl
  have p2 := K11.out.cell (i := 2) (v := .int .i64 i.pl.uni) rfl
  have p3 := K11.out.cell (i := 3) (v := .int .i64 i.pl.ref) rfl
  obtain ⟨q0, h0⟩ : ∃ b, b = inB i.pl.pos 0 262144 := ⟨_, rfl⟩
  obtain ⟨q1, h1⟩ : ∃ b, b = inB i.pl.sec 1 1024 := ⟨_, rfl⟩
  obtain ⟨q2, h2⟩ : ∃ b, b = inB i.pl.uni 1 16 := ⟨_, rfl⟩
  obtain ⟨q3, h3⟩ : ∃ b, b = inB i.pl.ref 1 2147483647 := ⟨_, rfl⟩
  have HF := Lib.hid (show fb = (q0 && q1 && q2 && q3) by rw [HFb.out, h0, h1, h2, h3]; unfold fineI; rw [if_pos HK.out])
  have H0 := Lib.hid h0
  have H1 := Lib.hid h1
  have H2 := Lib.hid h2
  have H3 := Lib.hid h3
  clear h0 h1 h2 h3
  go_cut [8] (fun cv wx => cv = .bool fb ∧ w11 = wx)
  case first =>
    as_aux_lemma =>
      cases q0 <;> cases q1 <;> cases q2 <;> cases q3
      all_goals
        go_wp2_with (first
          | (go_at_call 117; (with_reducible show Calls _ _ #[_, Value.int .i64 0, Value.int .i64 262144] _ _); refine (ent_w H0.out _).mono ?_; rintro e w12 ⟨rfl, rfl⟩)
          | (go_at_call 117; (with_reducible show Calls _ _ #[_, Value.int .i64 1, Value.int .i64 1024] _ _); refine (ent_w H1.out _).mono ?_; rintro e w12 ⟨rfl, rfl⟩)
          | (go_at_call 117; (with_reducible show Calls _ _ #[_, Value.int .i64 1, Value.int .i64 16] _ _); refine (ent_w H2.out _).mono ?_; rintro e w12 ⟨rfl, rfl⟩)
          | (go_at_call 117; (with_reducible show Calls _ _ #[_, Value.int .i64 1, Value.int .i64 2147483647] _ _); refine (ent_w H3.out _).mono ?_; rintro e w12 ⟨rfl, rfl⟩))
        go_meet
        exact ⟨by rw [HF.out]; rfl, rfl⟩
  case rest =>
  obtain ⟨rfl, rfl⟩ := hcut
  go_upto_region 11 with (first
    | ((with_reducible show wpList _ _ _ (_ :: _) _ _); refine wpl_slkey rfl (.tmp 56) (by rfl) ib 1 (by rfl) ?_; simp only [Act.put, List.setIfInBounds_toArray, List.set_cons_zero, List.set_cons_succ])
    | ((with_reducible show wpList _ _ _ (_ :: _) _ _); refine wpl_ecopy rfl (.tmp 55) (.tmp 57) (by rfl) eb 1 39 39 ib 1 i.key C11.out.ent (by rfl) (by rfl) (C11.out.item.part 1 _ (it_key i)) (by omega) (by omega) ?_; intro w13 he hg; have C13 := Lib.hid (C11.out.turnEnt he hg); have K13 := Lib.hid (K11.out.grown hg (by have := K11.out.lt; have := C9.out.ent.lt; simp; omega)); clear he hg; simp only [Act.put, List.setIfInBounds_toArray, List.set_cons_zero, List.set_cons_succ]))
  clear p0 p1 p2 p3
  have p0 := K13.out.cell (i := 0) (v := .int .i64 i.pl.pos) rfl
  have p1 := K13.out.cell (i := 1) (v := .int .i64 i.pl.sec) rfl
  have p2 := K13.out.cell (i := 2) (v := .int .i64 i.pl.uni) rfl
  have p3 := K13.out.cell (i := 3) (v := .int .i64 i.pl.ref) rfl
  go_upto_region 12 with fail
  clear p0 p1 p2 p3
  go_loopg [68] 4 (fun k iv wr => ∃ q : Nat, iv = .int .i64 (q : Int) ∧ q ≤ 4 ∧ q + k ≤ 4 ∧ 4 ≤ q + k ∧ EnC w ib rb eb bb i bb0 wr)
  case atStart => exact ⟨0, rfl, by omega, by omega, by omega, C13.out⟩
  case round =>
    obtain ⟨q, rfl, i1, i2, i3, hC⟩ := hrel
    have CQ := Lib.hid hC
    clear hC
    by_cases hq : q < 4
    · have ix : ∀ (j : Nat) (J : Int) (x : Int), J = (j : Int) → j < 4 → (#[Value.int .i64 i.pl.pos, .int .i64 i.pl.sec, .int .i64 i.pl.uni, .int .i64 i.pl.ref] : Array Value)[j]? = some (.int .i64 x) → ∀ W, (Instr.index 169 (.agg #[Value.int .i64 i.pl.pos, .int .i64 i.pl.sec, .int .i64 i.pl.uni, .int .i64 i.pl.ref]) (.int .i64 J)).run Tryz.prog W = .ok (.int .i64 x) W := fun j J x hJ hj hx W => by subst hJ; exact idx_arrE (P := Tryz.prog) 169 3 4 _ .i64 j _ Tryz.underlying169 size_i agg_i hj hx W
      have ix0 := ix 0 0 i.pl.pos rfl (by omega) rfl
      have ix1 := ix 1 1 i.pl.sec rfl (by omega) rfl
      have ix2 := ix 2 2 i.pl.uni rfl (by omega) rfl
      have ix3 := ix 3 3 i.pl.ref rfl (by omega) rfl
      clear ix
      have hq4 : q = 0 ∨ q = 1 ∨ q = 2 ∨ q = 3 := by omega
      rcases hq4 with rfl | rfl | rfl | rfl
      all_goals
        go_wp2_with (go_at_call 118; refine (four_any CQ.out.ent _ _ _ _ (by omega) (by omega)).mono ?_; rintro e w14 ⟨rfl, he, hg⟩; have C14 := Lib.hid (CQ.out.turnEnt he hg); clear he hg)
        go_roundg (gk - 1)
        case measure => omega
        case rel => first | exact ⟨1, rfl, by omega, by omega, by omega, C14.out⟩ | exact ⟨2, rfl, by omega, by omega, by omega, C14.out⟩ | exact ⟨3, rfl, by omega, by omega, by omega, C14.out⟩ | exact ⟨4, rfl, by omega, by omega, by omega, C14.out⟩
    · have e : q = 4 := by omega
      subst e
      go_upto_region 28 with fail
      obtain ⟨wc, hwc⟩ : ∃ v, v = wr := ⟨_, rfl⟩
      have C := Lib.hid (show EnC w ib rb eb bb i bb0 wc by rw [hwc]; exact CQ.out)
      rw [← hwc]
      clear hwc CQ
      obtain ⟨zr, hzr, hrb⟩ := C.out.res
      have RB := Lib.hid hrb
      have HZr := Lib.hid hzr
      have HLo := Lib.hid (show w.heap.size ≤ rb by have := C.out.lo; omega)
      clear hrb hzr
      have fq := fun W => it_neq (by have := HBb.out; exact this) HB.out W
      cases fb
      case false =>
        have HRt := Lib.hid (show rightI i = false by unfold rightI; rw [← HFb.out]; rfl)
        clear fq
        go_wp2_with (first
          | ((with_reducible show wpList _ _ _ (_ :: _) _ _); refine wpl_mk rfl 155 #[] (by rfl) [] (by rfl) _ built_en0 ?_; simp only [Act.put, List.setIfInBounds_toArray, List.set_cons_zero, List.set_cons_succ])
          | ((with_reducible show wpList _ _ _ (_ :: _) _ _); refine wpl_over rfl 155 (.tmp 2) (.tmp 155) (by rfl) rb ((entZ 0 79).map (Value.int .u8)) (by rfl) (by rfl) _ _ RB.out (ent_info _ rfl) (by have h := HZr.out; simp [entZ_len, h]) (ent_one _) ?_; intro w90 hk hg hz; have K90 := Lib.hid hk; have L90 := Lib.hid (bl_g C.out.low hg HLo.out); clear hk hg hz; simp only [Act.put, List.setIfInBounds_toArray, List.set_cons_zero, List.set_cons_succ]))
        refine bodyPost_ret (results_blk_tmp rfl _ rb rfl _ _ K90.out _ Tryz.underlying155 rfl 80 (by kernel_rfl) rfl) rfl ?_
        exact ⟨entZ 0 79, rfl, by rw [HRt.out]; rfl, L90.out⟩
      case true =>
        by_cases he : bb0 = i
        · have d1 : decide (bb0 = i) = true := decide_eq_true he
          have HRt := Lib.hid (show rightI i = true by unfold rightI; rw [← HFb.out, ← HBd.out, d1]; rfl)
          clear he
          simp only [d1, Bool.not_true] at fq
          clear d1
          obtain ⟨ze, hze, heb⟩ := C.out.ent
          have ER := Lib.hid (show wc.rangeAt eb 0 (ze.map (Value.int .u8)) by have := heb.range; rwa [toArr] at this)
          have HZe := Lib.hid hze
          clear heb hze
          go_wp2_with (first
            | ((with_reducible show wpList _ _ _ (_ :: _) _ _); refine wpl_guarded (by rfl) ?_; refine wpList_load_mid rfl 56 (.tmp 7) (by rfl) bb 0 (by rfl) (itC bb0) _ C.out.brng Tryz.underlying56 rfl (itC_info _) ?_; simp only [Act.put, List.setIfInBounds_toArray, List.set_cons_zero, List.set_cons_succ])
            | ((with_reducible show wpList _ _ _ (_ :: _) _ _); refine wpl_guarded (by rfl) ?_; refine wpList_load_mid rfl 56 (.tmp 1) (by rfl) ib 0 (by rfl) (itC i) _ C.out.rng Tryz.underlying56 rfl (itC_info _) ?_; simp only [Act.put, List.setIfInBounds_toArray, List.set_cons_zero, List.set_cons_succ])
            | ((with_reducible show wpList _ _ _ (_ :: _) _ _); refine wpList_load_mid rfl 155 (.tmp 4) (by rfl) eb 0 (by rfl) (ze.map (Value.int .u8)) _ ER.out Tryz.underlying155 rfl (ent_info _ HZe.out) ?_; simp only [Act.put, List.setIfInBounds_toArray, List.set_cons_zero, List.set_cons_succ])
            | ((with_reducible show wpList _ _ _ (_ :: _) _ _); refine wpl_over rfl 155 (.tmp 2) (.tmp 156) (by rfl) rb (ze.map (Value.int .u8)) (by rfl) (by rfl) _ _ RB.out (ent_info _ HZe.out) (by have h := HZr.out; have h2 := HZe.out; simp [h, h2]) (ent_one _) ?_; intro w90 hk hg hz; have K90 := Lib.hid hk; have L90 := Lib.hid (bl_g C.out.low hg HLo.out); clear hk hg hz; simp only [Act.put, List.setIfInBounds_toArray, List.set_cons_zero, List.set_cons_succ]))
          refine bodyPost_ret (results_blk_tmp rfl _ rb rfl _ _ K90.out _ Tryz.underlying155 rfl 80 (by kernel_rfl) (by have h2 := HZe.out; simp [h2])) rfl ?_
          exact ⟨ze, HZe.out, by rw [HRt.out]; rfl, L90.out⟩
        · have d1 : decide (bb0 = i) = false := decide_eq_false he
          have HRt := Lib.hid (show rightI i = false by unfold rightI; rw [← HFb.out, ← HBd.out, d1]; rfl)
          clear he
          simp only [d1, Bool.not_false] at fq
          clear d1
          go_wp2_with (first
            | ((with_reducible show wpList _ _ _ (_ :: _) _ _); refine wpl_guarded (by rfl) ?_; refine wpList_load_mid rfl 56 (.tmp 7) (by rfl) bb 0 (by rfl) (itC bb0) _ C.out.brng Tryz.underlying56 rfl (itC_info _) ?_; simp only [Act.put, List.setIfInBounds_toArray, List.set_cons_zero, List.set_cons_succ])
            | ((with_reducible show wpList _ _ _ (_ :: _) _ _); refine wpl_guarded (by rfl) ?_; refine wpList_load_mid rfl 56 (.tmp 1) (by rfl) ib 0 (by rfl) (itC i) _ C.out.rng Tryz.underlying56 rfl (itC_info _) ?_; simp only [Act.put, List.setIfInBounds_toArray, List.set_cons_zero, List.set_cons_succ])
            | ((with_reducible show wpList _ _ _ (_ :: _) _ _); refine wpl_mk rfl 155 #[] (by rfl) [] (by rfl) _ built_en0 ?_; simp only [Act.put, List.setIfInBounds_toArray, List.set_cons_zero, List.set_cons_succ])
            | ((with_reducible show wpList _ _ _ (_ :: _) _ _); refine wpl_over rfl 155 (.tmp 2) (.tmp 155) (by rfl) rb ((entZ 0 79).map (Value.int .u8)) (by rfl) (by rfl) _ _ RB.out (ent_info _ rfl) (by have h := HZr.out; simp [entZ_len, h]) (ent_one _) ?_; intro w90 hk hg hz; have K90 := Lib.hid hk; have L90 := Lib.hid (bl_g C.out.low hg HLo.out); clear hk hg hz; simp only [Act.put, List.setIfInBounds_toArray, List.set_cons_zero, List.set_cons_succ]))
          refine bodyPost_ret (results_blk_tmp rfl _ rb rfl _ _ K90.out _ Tryz.underlying155 rfl 80 (by kernel_rfl) rfl) rfl ?_
          exact ⟨entZ 0 79, rfl, by rw [HRt.out]; rfl, L90.out⟩
end Go.Proofs.YtgjjdfhoakailaaGreat
namespace Go.Proofs.YtgjjdfhoakailaaGreat
open Go.RowKit Go.Maps Go.Sort Go.Shelf
set_option linter.unusedVariables false
set_option linter.unusedSimpArgs false

set_option maxRecDepth 100000 in
set_option maxHeartbeats 1000000 in
theorem entOf_3 {w : World} (i : It) (hb : ItB i) (hk : i.kind = 3) : Calls Tryz.prog 102 #[.agg (itC i).toArray] w (EntPost i w) := by
  have HK := Lib.hid hk
  clear hk
  have HB := Lib.hid hb
  clear hb
  obtain ⟨zs0, hz0, hzv⟩ := zero_ent
  have HZ0 := Lib.hid hz0
  have HZV := Lib.hid hzv
  clear hz0 hzv
  go_enter Tryz.func102, Tryz.ntmps102
  go_upto_region 1 with (first
    | ((with_reducible show wpList _ _ _ (_ :: _) _ _); refine wpl_box rfl 56 (.tmp 0) (by rfl) _ (by rfl) ?_; intro w1 hk hg hz; have K1 := Lib.hid hk; have L1 := Lib.hid (bl_n (Below.refl _ w) hg); clear hk hg hz; simp only [Act.put, List.setIfInBounds_toArray, List.set_cons_zero, List.set_cons_succ])
    | ((with_reducible show wpList _ _ _ (_ :: _) _ _); refine wpl_alloc_zero rfl 155 (by rfl) HZV.out ?_; intro w2 hk hg hz; have K2 := Lib.hid (show EntB w2 w1.heap.size from ⟨zs0, HZ0.out, by simpa [Value.cells] using hk⟩); have L2 := Lib.hid (bl_n (Below.refl _ w1) hg); clear hk hg hz; simp only [Act.put, List.setIfInBounds_toArray, List.set_cons_zero, List.set_cons_succ]))
  have I2 := Lib.hid (K1.out.below L2.out K1.out.lt)
  have c0 := itC_cell I2.out (j := 0) (v := .int .u8 i.kind) rfl
  go_upto_region 2 with (first
    | ((with_reducible show wpList _ _ _ (_ :: _) _ _); refine wpl_mk rfl 152 #[(0, .tmp 15)] (by rfl) [(0, .int .u8 i.kind)] (by rfl) _ (built_tk i.kind) ?_; simp only [Act.put, List.setIfInBounds_toArray, List.set_cons_zero, List.set_cons_succ])
    | ((with_reducible show wpList _ _ _ (_ :: _) _ _); refine wpl_mk rfl 155 #[(0, .tmp 16)] (by rfl) [(0, .agg ((entZ i.kind 39).map (Value.int .u8)).toArray)] (by rfl) _ (built_en i.kind) ?_; simp only [Act.put, List.setIfInBounds_toArray, List.set_cons_zero, List.set_cons_succ])
    | ((with_reducible show wpList _ _ _ (_ :: _) _ _); refine wpl_alloc rfl 155 (by rfl) HZV.out 80 (by simp [Value.cells, HZ0.out]) ?_; intro w3 cs hk hc hg hz; have K3 := Lib.hid hk; have C3 := Lib.hid hc; have L3 := Lib.hid (bl_n (Below.refl _ w2) hg); clear hk hc hg hz; simp only [Act.put, List.setIfInBounds_toArray, List.set_cons_zero, List.set_cons_succ])
    | ((with_reducible show wpList _ _ _ (_ :: _) _ _); refine wpl_over rfl 155 (.tmp 4) (.tmp 17) (by rfl) w2.heap.size ((entZ i.kind 79).map (Value.int .u8)) (by rfl) (by rfl) _ cs K3.out (ent_info _ rfl) (by rw [List.length_map, entZ_len, C3.out]) (ent_one _) ?_; intro w4 hk hg hz; have K4 := Lib.hid (show EntB w4 w2.heap.size from ⟨_, rfl, hk⟩); have L4 := Lib.hid (bl_g L3.out hg (Nat.le_refl _)); clear hk hg hz; simp only [Act.put, List.setIfInBounds_toArray, List.set_cons_zero, List.set_cons_succ]))
  have I4 := Lib.hid (I2.out.below L4.out I2.out.lt)
  have R4 := Lib.hid (K2.out.below L4.out)
  refine wp_region_qs (fun _ _ => True) [(0, some 0), (1, some 0), (2, some 0), (3, some 0), (4, some 0), (5, some 0)] (by kernel_rfl) (by kernel_rfl) (by kernel_rfl) (by kernel_rfl) (by kernel_rfl) (fun _ _ _ _ _ h => h) trivial ?_
  simp only [List.map_cons, List.map_nil, List.getD_cons_succ, List.getD_cons_zero]
  (repeat (first | ((first | (refine qs_run (v := .slice (some ⟨w2.heap.size, 1, none⟩) 39 39) (by rfl) (fun j w' hS => by unfold execOp; simp only [Option.map_some, Option.map_none]; show Sem.run _ ((Instr.sliceAt 152 (.pointer (some ⟨w2.heap.size, 0, none⟩)) (some (.int .i64 1)) none none) >>= fun v => pure (Next.value v)) w' = _; rw [Sem.run_bind, slice_tkey]; rfl) ?_) | (refine qs_run (v := .slice (some ⟨w2.heap.size, 40, none⟩) 40 40) (by rfl) (fun j w' hS => by unfold execOp; simp only [Option.map_some, Option.map_none]; show Sem.run _ ((Instr.sliceAt 153 (.pointer (some ⟨w2.heap.size, 40, none⟩)) none none none) >>= fun v => pure (Next.value v)) w' = _; rw [Sem.run_bind, slice_tval]; rfl) ?_)); simp only [Act.put, List.setIfInBounds_toArray, List.set_cons_zero, List.set_cons_succ]) | (refine qs_now (v := ?_) (by rfl) ?_ ?_; rotate_left 1; (· (intro w' hS; go_simp; (try (simp only [↓IntWalk.iteOmega]; go_simp)); (try simp (disch := omega) only [IntWalk.i64_in]); try with_reducible rfl)); simp only [Act.put, List.setIfInBounds_toArray, List.set_cons_zero, List.set_cons_succ]) | (refine qs_run (v := ?_) (by rfl) ?_ ?_; rotate_left 1; (· (intro j w' hS; go_simp; (try (simp only [↓IntWalk.iteOmega]; go_simp)); (try simp (disch := omega) only [IntWalk.i64_in]); try with_reducible rfl)); simp only [Act.put, List.setIfInBounds_toArray, List.set_cons_zero, List.set_cons_succ]) | (refine qs_mid (v := ?_) (by rfl) ?_ ?_; rotate_left 1; (· (intro j w' hj1 hj2 hS; go_simp; (try (simp only [↓IntWalk.iteOmega]; go_simp)); (try simp (disch := omega) only [IntWalk.i64_in]); try with_reducible rfl)); simp only [Act.put, List.setIfInBounds_toArray, List.set_cons_zero, List.set_cons_succ]) | (refine qs_skip (by rfl) ?_; simp only [Act.put, List.setIfInBounds_toArray, List.set_cons_zero, List.set_cons_succ])))
  refine qs_nil ?_
  obtain ⟨w5, hw5⟩ : ∃ v, v = w4.drew := ⟨_, rfl⟩
  have L5 := Lib.hid (show Below w4.heap.size w4 w5 by rw [hw5]; exact (Below.refl _ _).drew)
  rw [← hw5]
  clear hw5
  have I5 := Lib.hid (I4.out.below L5.out I4.out.lt)
  have R5 := Lib.hid (R4.out.below L5.out)
  have E5 := Lib.hid (K4.out.below L5.out)
  clear c0
  have c0 := itC_cell I5.out (j := 0) (v := .int .u8 i.kind) rfl
  go_upto_region 4 with (first
    | ((with_reducible show wpList _ _ _ (_ :: _) _ _); refine wpl_mk rfl 56 #[(0, .tmp 23)] (by rfl) [(0, .int .u8 i.kind)] (by rfl) _ (built_kind i.kind) ?_; simp only [Act.put, List.setIfInBounds_toArray, List.set_cons_zero, List.set_cons_succ])
    | ((with_reducible show wpList _ _ _ (_ :: _) _ _); refine wpl_alloc rfl 56 (by rfl) Tryz.zeroValue56 73 zero_It_len ?_; intro w6 cs hk hc hg hz; have K6 := Lib.hid hk; have C6 := Lib.hid hc; have L6 := Lib.hid (bl_n (Below.refl _ w5) hg); clear hk hc hg hz; simp only [Act.put, List.setIfInBounds_toArray, List.set_cons_zero, List.set_cons_succ])
    | ((with_reducible show wpList _ _ _ (_ :: _) _ _); refine wpl_over rfl 56 (.tmp 7) (.tmp 24) (by rfl) w5.heap.size (itC ⟨i.kind, zKey, zPl, 0, 0, zSl⟩) (by rfl) (by rfl) _ cs K6.out (itC_info _) (by rw [itC_len, C6.out]) (itC_one _) ?_; intro w7 hk hg hz; have K7 := Lib.hid hk; have L7 := Lib.hid (bl_g L6.out hg (Nat.le_refl _)); clear hk hg hz; simp only [Act.put, List.setIfInBounds_toArray, List.set_cons_zero, List.set_cons_succ]))
  have C7 := Lib.hid (show EnC w w.heap.size w1.heap.size w2.heap.size w5.heap.size i ⟨i.kind, zKey, zPl, 0, 0, zSl⟩ w7 from
    ⟨I5.out.below L7.out I5.out.lt, R5.out.below L7.out, E5.out.below L7.out, K7.out, below_chain (below_chain (below_chain (below_chain L1.out L2.out) L4.out) L5.out) L7.out, Nat.le_refl _, I2.out.lt |> fun _ => by have := K1.out.lt; omega, by have := K2.out.lt; omega, by have := K4.out.lt; have := L5.out.size; omega⟩)
  clear I5 R5 E5 K7 L7 K6 C6 L6 L5 I4 R4 K4 L4 K3 C3 L3 I2 K2 L2 K1 L1 HZV HZ0 c0
  generalize w1.heap.size = rb at C7 ⊢
  generalize w2.heap.size = eb at C7 ⊢
  generalize w5.heap.size = bb at C7 ⊢
  obtain ⟨ib, hib⟩ : ∃ b, b = w.heap.size := ⟨_, rfl⟩
  rw [← hib] at C7 ⊢
  clear hib
  have c0 := itC_cell C7.out.item (j := 0) (v := .int .u8 i.kind) rfl
  obtain ⟨fb, hfb⟩ : ∃ b, b = fineI i := ⟨_, rfl⟩
  have HFb := Lib.hid hfb
  obtain ⟨bb0, hbd⟩ : ∃ b, b = bareI i := ⟨_, rfl⟩
  have HBd := Lib.hid hbd
  have HBb := Lib.hid (show ItB bb0 by rw [hbd]; exact bareI_B HB.out)
  clear hfb hbd
  have b1 : (i.kind == 1) = false := by rw [HK.out]; rfl
  have b2 : (i.kind == 2) = false := by rw [HK.out]; rfl
  have b3 : (i.kind == 3) = true := by rw [HK.out]; rfl
  have s0 := itC_cell C7.out.item (it_snap i)
  have f0 : w7.cell? ⟨bb, 37, none⟩ = some (.int .i64 0) := itC_cell C7.out.bare (it_snap _)
  have f1 := C7.out.bare.free 37
  go_upto_region 26 with fail
  obtain ⟨w8, hw8⟩ : ∃ v, v = w7.setCell ⟨bb, 37, none⟩ (.int .i64 i.snap) := ⟨_, rfl⟩
  have C8 := Lib.hid (show EnC w ib rb eb bb i bb0 w8 by
    have h1 : Blk w8 bb 56 (itC ⟨i.kind, zKey, zPl, i.snap, 0, zSl⟩).toArray := by
      have h2 := C7.out.bare.put 37 (.int .i64 i.snap)
      have h3 := put_snap ⟨i.kind, zKey, zPl, 0, 0, zSl⟩ i.snap
      rw [hw8]
      exact h3 ▸ h2
    have h4 : w7.grownBy w8 (some bb) := by rw [hw8]; exact grown_put _ ⟨bb, 37, none⟩ _
    have := C7.out.turnBare h1 h4
    rw [HBd.out]
    unfold bareI
    rw [HK.out] at this ⊢
    exact this)
  rw [← hw8]
  clear hw8 s0 f0 f1 c0
  have s0 := itC_cell C8.out.item (it_snap i)
  have HQ := Lib.hid (show fb = inB i.snap 1 1073741824 by rw [HFb.out]; unfold fineI; rw [HK.out]; rfl)
  go_upto_region 28 with (first
    | (go_at_call 117; refine (ent_w HQ.out _).mono ?_; rintro e w12 ⟨rfl, rfl⟩)
    | (go_at_call 118; refine (four_any C8.out.ent _ _ _ _ (by omega) (by omega)).mono ?_; rintro e w14 ⟨rfl, he, hg⟩; have C14 := Lib.hid (C8.out.turnEnt he hg); clear he hg))
  obtain ⟨wc, hwc⟩ : ∃ v, v = w14 := ⟨_, rfl⟩
  have C := Lib.hid (show EnC w ib rb eb bb i bb0 wc by rw [hwc]; exact C14.out)
  rw [← hwc]
  clear hwc C14 C8 s0 C7
  obtain ⟨zr, hzr, hrb⟩ := C.out.res
  have RB := Lib.hid hrb
  have HZr := Lib.hid hzr
  have HLo := Lib.hid (show w.heap.size ≤ rb by have := C.out.lo; omega)
  clear hrb hzr
  have fq := fun W => it_neq (by have := HBb.out; exact this) HB.out W
  cases fb
  case false =>
    have HRt := Lib.hid (show rightI i = false by unfold rightI; rw [← HFb.out]; rfl)
    clear fq
    go_wp2_with (first
      | ((with_reducible show wpList _ _ _ (_ :: _) _ _); refine wpl_mk rfl 155 #[] (by rfl) [] (by rfl) _ built_en0 ?_; simp only [Act.put, List.setIfInBounds_toArray, List.set_cons_zero, List.set_cons_succ])
      | ((with_reducible show wpList _ _ _ (_ :: _) _ _); refine wpl_over rfl 155 (.tmp 2) (.tmp 155) (by rfl) rb ((entZ 0 79).map (Value.int .u8)) (by rfl) (by rfl) _ _ RB.out (ent_info _ rfl) (by have h := HZr.out; simp [entZ_len, h]) (ent_one _) ?_; intro w90 hk hg hz; have K90 := Lib.hid hk; have L90 := Lib.hid (bl_g C.out.low hg HLo.out); clear hk hg hz; simp only [Act.put, List.setIfInBounds_toArray, List.set_cons_zero, List.set_cons_succ]))
    refine bodyPost_ret (results_blk_tmp rfl _ rb rfl _ _ K90.out _ Tryz.underlying155 rfl 80 (by kernel_rfl) rfl) rfl ?_
    exact ⟨entZ 0 79, rfl, by rw [HRt.out]; rfl, L90.out⟩
  case true =>
    by_cases he : bb0 = i
    · have d1 : decide (bb0 = i) = true := decide_eq_true he
      have HRt := Lib.hid (show rightI i = true by unfold rightI; rw [← HFb.out, ← HBd.out, d1]; rfl)
      clear he
      simp only [d1, Bool.not_true] at fq
      clear d1
      obtain ⟨ze, hze, heb⟩ := C.out.ent
      have ER := Lib.hid (show wc.rangeAt eb 0 (ze.map (Value.int .u8)) by have := heb.range; rwa [toArr] at this)
      have HZe := Lib.hid hze
      clear heb hze
      go_wp2_with (first
        | ((with_reducible show wpList _ _ _ (_ :: _) _ _); refine wpl_guarded (by rfl) ?_; refine wpList_load_mid rfl 56 (.tmp 7) (by rfl) bb 0 (by rfl) (itC bb0) _ C.out.brng Tryz.underlying56 rfl (itC_info _) ?_; simp only [Act.put, List.setIfInBounds_toArray, List.set_cons_zero, List.set_cons_succ])
        | ((with_reducible show wpList _ _ _ (_ :: _) _ _); refine wpl_guarded (by rfl) ?_; refine wpList_load_mid rfl 56 (.tmp 1) (by rfl) ib 0 (by rfl) (itC i) _ C.out.rng Tryz.underlying56 rfl (itC_info _) ?_; simp only [Act.put, List.setIfInBounds_toArray, List.set_cons_zero, List.set_cons_succ])
        | ((with_reducible show wpList _ _ _ (_ :: _) _ _); refine wpList_load_mid rfl 155 (.tmp 4) (by rfl) eb 0 (by rfl) (ze.map (Value.int .u8)) _ ER.out Tryz.underlying155 rfl (ent_info _ HZe.out) ?_; simp only [Act.put, List.setIfInBounds_toArray, List.set_cons_zero, List.set_cons_succ])
        | ((with_reducible show wpList _ _ _ (_ :: _) _ _); refine wpl_over rfl 155 (.tmp 2) (.tmp 156) (by rfl) rb (ze.map (Value.int .u8)) (by rfl) (by rfl) _ _ RB.out (ent_info _ HZe.out) (by have h := HZr.out; have h2 := HZe.out; simp [h, h2]) (ent_one _) ?_; intro w90 hk hg hz; have K90 := Lib.hid hk; have L90 := Lib.hid (bl_g C.out.low hg HLo.out); clear hk hg hz; simp only [Act.put, List.setIfInBounds_toArray, List.set_cons_zero, List.set_cons_succ]))
      refine bodyPost_ret (results_blk_tmp rfl _ rb rfl _ _ K90.out _ Tryz.underlying155 rfl 80 (by kernel_rfl) (by have h2 := HZe.out; simp [h2])) rfl ?_
      exact ⟨ze, HZe.out, by rw [HRt.out]; rfl, L90.out⟩
    · have d1 : decide (bb0 = i) = false := decide_eq_false he
      have HRt := Lib.hid (show rightI i = false by unfold rightI; rw [← HFb.out, ← HBd.out, d1]; rfl)
      clear he
      simp only [d1, Bool.not_false] at fq
      clear d1
      go_wp2_with (first
        | ((with_reducible show wpList _ _ _ (_ :: _) _ _); refine wpl_guarded (by rfl) ?_; refine wpList_load_mid rfl 56 (.tmp 7) (by rfl) bb 0 (by rfl) (itC bb0) _ C.out.brng Tryz.underlying56 rfl (itC_info _) ?_; simp only [Act.put, List.setIfInBounds_toArray, List.set_cons_zero, List.set_cons_succ])
        | ((with_reducible show wpList _ _ _ (_ :: _) _ _); refine wpl_guarded (by rfl) ?_; refine wpList_load_mid rfl 56 (.tmp 1) (by rfl) ib 0 (by rfl) (itC i) _ C.out.rng Tryz.underlying56 rfl (itC_info _) ?_; simp only [Act.put, List.setIfInBounds_toArray, List.set_cons_zero, List.set_cons_succ])
        | ((with_reducible show wpList _ _ _ (_ :: _) _ _); refine wpl_mk rfl 155 #[] (by rfl) [] (by rfl) _ built_en0 ?_; simp only [Act.put, List.setIfInBounds_toArray, List.set_cons_zero, List.set_cons_succ])
        | ((with_reducible show wpList _ _ _ (_ :: _) _ _); refine wpl_over rfl 155 (.tmp 2) (.tmp 155) (by rfl) rb ((entZ 0 79).map (Value.int .u8)) (by rfl) (by rfl) _ _ RB.out (ent_info _ rfl) (by have h := HZr.out; simp [entZ_len, h]) (ent_one _) ?_; intro w90 hk hg hz; have K90 := Lib.hid hk; have L90 := Lib.hid (bl_g C.out.low hg HLo.out); clear hk hg hz; simp only [Act.put, List.setIfInBounds_toArray, List.set_cons_zero, List.set_cons_succ]))
      refine bodyPost_ret (results_blk_tmp rfl _ rb rfl _ _ K90.out _ Tryz.underlying155 rfl 80 (by kernel_rfl) rfl) rfl ?_
      exact ⟨entZ 0 79, rfl, by rw [HRt.out]; rfl, L90.out⟩
end Go.Proofs.YtgjjdfhoakailaaGreat
namespace Go.Proofs.YtgjjdfhoakailaaGreat
open Go.RowKit Go.Maps Go.Sort Go.Shelf
set_option linter.unusedVariables false
set_option linter.unusedSimpArgs false

theorem slC_key2 (s : Sl) : ((slC s).drop 0).take (keyL s.key).length = keyL s.key := by
  unfold slC
  rw [List.drop_zero, List.take_left]
set_option maxRecDepth 100000 in
set_option maxHeartbeats 1000000 in
theorem entOf_2 {w : World} (i : It) (hb : ItB i) (hk : i.kind = 2) : Calls Tryz.prog 102 #[.agg (itC i).toArray] w (EntPost i w) := by
  have HK := Lib.hid hk
  clear hk
  have HB := Lib.hid hb
  clear hb
  obtain ⟨zs0, hz0, hzv⟩ := zero_ent
  have HZ0 := Lib.hid hz0
  have HZV := Lib.hid hzv
  clear hz0 hzv
  go_enter Tryz.func102, Tryz.ntmps102
  go_upto_region 1 with (first
    | ((with_reducible show wpList _ _ _ (_ :: _) _ _); refine wpl_box rfl 56 (.tmp 0) (by rfl) _ (by rfl) ?_; intro w1 hk hg hz; have K1 := Lib.hid hk; have L1 := Lib.hid (bl_n (Below.refl _ w) hg); clear hk hg hz; simp only [Act.put, List.setIfInBounds_toArray, List.set_cons_zero, List.set_cons_succ])
    | ((with_reducible show wpList _ _ _ (_ :: _) _ _); refine wpl_alloc_zero rfl 155 (by rfl) HZV.out ?_; intro w2 hk hg hz; have K2 := Lib.hid (show EntB w2 w1.heap.size from ⟨zs0, HZ0.out, by simpa [Value.cells] using hk⟩); have L2 := Lib.hid (bl_n (Below.refl _ w1) hg); clear hk hg hz; simp only [Act.put, List.setIfInBounds_toArray, List.set_cons_zero, List.set_cons_succ]))
  have I2 := Lib.hid (K1.out.below L2.out K1.out.lt)
  have c0 := itC_cell I2.out (j := 0) (v := .int .u8 i.kind) rfl
  go_upto_region 2 with (first
    | ((with_reducible show wpList _ _ _ (_ :: _) _ _); refine wpl_mk rfl 152 #[(0, .tmp 15)] (by rfl) [(0, .int .u8 i.kind)] (by rfl) _ (built_tk i.kind) ?_; simp only [Act.put, List.setIfInBounds_toArray, List.set_cons_zero, List.set_cons_succ])
    | ((with_reducible show wpList _ _ _ (_ :: _) _ _); refine wpl_mk rfl 155 #[(0, .tmp 16)] (by rfl) [(0, .agg ((entZ i.kind 39).map (Value.int .u8)).toArray)] (by rfl) _ (built_en i.kind) ?_; simp only [Act.put, List.setIfInBounds_toArray, List.set_cons_zero, List.set_cons_succ])
    | ((with_reducible show wpList _ _ _ (_ :: _) _ _); refine wpl_alloc rfl 155 (by rfl) HZV.out 80 (by simp [Value.cells, HZ0.out]) ?_; intro w3 cs hk hc hg hz; have K3 := Lib.hid hk; have C3 := Lib.hid hc; have L3 := Lib.hid (bl_n (Below.refl _ w2) hg); clear hk hc hg hz; simp only [Act.put, List.setIfInBounds_toArray, List.set_cons_zero, List.set_cons_succ])
    | ((with_reducible show wpList _ _ _ (_ :: _) _ _); refine wpl_over rfl 155 (.tmp 4) (.tmp 17) (by rfl) w2.heap.size ((entZ i.kind 79).map (Value.int .u8)) (by rfl) (by rfl) _ cs K3.out (ent_info _ rfl) (by rw [List.length_map, entZ_len, C3.out]) (ent_one _) ?_; intro w4 hk hg hz; have K4 := Lib.hid (show EntB w4 w2.heap.size from ⟨_, rfl, hk⟩); have L4 := Lib.hid (bl_g L3.out hg (Nat.le_refl _)); clear hk hg hz; simp only [Act.put, List.setIfInBounds_toArray, List.set_cons_zero, List.set_cons_succ]))
  have I4 := Lib.hid (I2.out.below L4.out I2.out.lt)
  have R4 := Lib.hid (K2.out.below L4.out)
  refine wp_region_qs (fun _ _ => True) [(0, some 0), (1, some 0), (2, some 0), (3, some 0), (4, some 0), (5, some 0)] (by kernel_rfl) (by kernel_rfl) (by kernel_rfl) (by kernel_rfl) (by kernel_rfl) (fun _ _ _ _ _ h => h) trivial ?_
  simp only [List.map_cons, List.map_nil, List.getD_cons_succ, List.getD_cons_zero]
  (repeat (first | ((first | (refine qs_run (v := .slice (some ⟨w2.heap.size, 1, none⟩) 39 39) (by rfl) (fun j w' hS => by unfold execOp; simp only [Option.map_some, Option.map_none]; show Sem.run _ ((Instr.sliceAt 152 (.pointer (some ⟨w2.heap.size, 0, none⟩)) (some (.int .i64 1)) none none) >>= fun v => pure (Next.value v)) w' = _; rw [Sem.run_bind, slice_tkey]; rfl) ?_) | (refine qs_run (v := .slice (some ⟨w2.heap.size, 40, none⟩) 40 40) (by rfl) (fun j w' hS => by unfold execOp; simp only [Option.map_some, Option.map_none]; show Sem.run _ ((Instr.sliceAt 153 (.pointer (some ⟨w2.heap.size, 40, none⟩)) none none none) >>= fun v => pure (Next.value v)) w' = _; rw [Sem.run_bind, slice_tval]; rfl) ?_)); simp only [Act.put, List.setIfInBounds_toArray, List.set_cons_zero, List.set_cons_succ]) | (refine qs_now (v := ?_) (by rfl) ?_ ?_; rotate_left 1; (· (intro w' hS; go_simp; (try (simp only [↓IntWalk.iteOmega]; go_simp)); (try simp (disch := omega) only [IntWalk.i64_in]); try with_reducible rfl)); simp only [Act.put, List.setIfInBounds_toArray, List.set_cons_zero, List.set_cons_succ]) | (refine qs_run (v := ?_) (by rfl) ?_ ?_; rotate_left 1; (· (intro j w' hS; go_simp; (try (simp only [↓IntWalk.iteOmega]; go_simp)); (try simp (disch := omega) only [IntWalk.i64_in]); try with_reducible rfl)); simp only [Act.put, List.setIfInBounds_toArray, List.set_cons_zero, List.set_cons_succ]) | (refine qs_mid (v := ?_) (by rfl) ?_ ?_; rotate_left 1; (· (intro j w' hj1 hj2 hS; go_simp; (try (simp only [↓IntWalk.iteOmega]; go_simp)); (try simp (disch := omega) only [IntWalk.i64_in]); try with_reducible rfl)); simp only [Act.put, List.setIfInBounds_toArray, List.set_cons_zero, List.set_cons_succ]) | (refine qs_skip (by rfl) ?_; simp only [Act.put, List.setIfInBounds_toArray, List.set_cons_zero, List.set_cons_succ])))
  refine qs_nil ?_
  obtain ⟨w5, hw5⟩ : ∃ v, v = w4.drew := ⟨_, rfl⟩
  have L5 := Lib.hid (show Below w4.heap.size w4 w5 by rw [hw5]; exact (Below.refl _ _).drew)
  rw [← hw5]
  clear hw5
  have I5 := Lib.hid (I4.out.below L5.out I4.out.lt)
  have R5 := Lib.hid (R4.out.below L5.out)
  have E5 := Lib.hid (K4.out.below L5.out)
  clear c0
  have c0 := itC_cell I5.out (j := 0) (v := .int .u8 i.kind) rfl
  go_upto_region 4 with (first
    | ((with_reducible show wpList _ _ _ (_ :: _) _ _); refine wpl_mk rfl 56 #[(0, .tmp 23)] (by rfl) [(0, .int .u8 i.kind)] (by rfl) _ (built_kind i.kind) ?_; simp only [Act.put, List.setIfInBounds_toArray, List.set_cons_zero, List.set_cons_succ])
    | ((with_reducible show wpList _ _ _ (_ :: _) _ _); refine wpl_alloc rfl 56 (by rfl) Tryz.zeroValue56 73 zero_It_len ?_; intro w6 cs hk hc hg hz; have K6 := Lib.hid hk; have C6 := Lib.hid hc; have L6 := Lib.hid (bl_n (Below.refl _ w5) hg); clear hk hc hg hz; simp only [Act.put, List.setIfInBounds_toArray, List.set_cons_zero, List.set_cons_succ])
    | ((with_reducible show wpList _ _ _ (_ :: _) _ _); refine wpl_over rfl 56 (.tmp 7) (.tmp 24) (by rfl) w5.heap.size (itC ⟨i.kind, zKey, zPl, 0, 0, zSl⟩) (by rfl) (by rfl) _ cs K6.out (itC_info _) (by rw [itC_len, C6.out]) (itC_one _) ?_; intro w7 hk hg hz; have K7 := Lib.hid hk; have L7 := Lib.hid (bl_g L6.out hg (Nat.le_refl _)); clear hk hg hz; simp only [Act.put, List.setIfInBounds_toArray, List.set_cons_zero, List.set_cons_succ]))
  have C7 := Lib.hid (show EnC w w.heap.size w1.heap.size w2.heap.size w5.heap.size i ⟨i.kind, zKey, zPl, 0, 0, zSl⟩ w7 from
    ⟨I5.out.below L7.out I5.out.lt, R5.out.below L7.out, E5.out.below L7.out, K7.out, below_chain (below_chain (below_chain (below_chain L1.out L2.out) L4.out) L5.out) L7.out, Nat.le_refl _, I2.out.lt |> fun _ => by have := K1.out.lt; omega, by have := K2.out.lt; omega, by have := K4.out.lt; have := L5.out.size; omega⟩)
  clear I5 R5 E5 K7 L7 K6 C6 L6 L5 I4 R4 K4 L4 K3 C3 L3 I2 K2 L2 K1 L1 HZV HZ0 c0
  generalize w1.heap.size = rb at C7 ⊢
  generalize w2.heap.size = eb at C7 ⊢
  generalize w5.heap.size = bb at C7 ⊢
  obtain ⟨ib, hib⟩ : ∃ b, b = w.heap.size := ⟨_, rfl⟩
  rw [← hib] at C7 ⊢
  clear hib
  have c0 := itC_cell C7.out.item (j := 0) (v := .int .u8 i.kind) rfl
  obtain ⟨fb, hfb⟩ : ∃ b, b = fineI i := ⟨_, rfl⟩
  have HFb := Lib.hid hfb
  obtain ⟨bb0, hbd⟩ : ∃ b, b = bareI i := ⟨_, rfl⟩
  have HBd := Lib.hid hbd
  have HBb := Lib.hid (show ItB bb0 by rw [hbd]; exact bareI_B HB.out)
  clear hfb hbd
  have b1 : (i.kind == 1) = false := by rw [HK.out]; rfl
  have b2 : (i.kind == 2) = true := by rw [HK.out]; rfl
  have C7d := Lib.hid (C7.out.below (Below.refl _ _).drew)
  go_upto_region 17 with fail
  have f0 : w7.drew.cell? ⟨bb, 37, none⟩ = some (.int .i64 0) := itC_cell C7d.out.bare (it_snap _)
  have f1 := C7d.out.bare.free 37
  refine wp_region_qs (fun _ w' => w'.cell? ⟨ib, 37, none⟩ = some (.int .i64 i.snap) ∧ w'.cell? ⟨ib, 38, none⟩ = some (.int .i64 i.unit) ∧ w'.rangeAt ib 39 (slC i.sl)) [(0, some 0), (1, some 0), (2, some 1), (3, some 1), (4, some 2), (5, some 2), (6, some 0), (7, none), (8, some 1), (9, none), (10, some 2), (11, none)] (by kernel_rfl) (by kernel_rfl) (by kernel_rfl) (by kernel_rfl) (by kernel_rfl) (fun _ _ _ _ _ h => h) ⟨itC_cell C7d.out.item (it_snap i), itC_cell C7d.out.item (it_unit i), C7d.out.item.part 39 _ (it_sl i)⟩ ?_
  simp only [List.map_cons, List.map_nil, List.getD_cons_succ, List.getD_cons_zero]
  (repeat (first | ((refine qs_row (by rfl) 54 (.tmp 85) (by rfl) ib 39 (by rfl) (slC i.sl) _ (fun j w' _ h2 h => h.2.2) Tryz.underlying54 rfl (slC_info _) ?_); simp only [Act.put, List.setIfInBounds_toArray, List.set_cons_zero, List.set_cons_succ]) | (refine qs_now (v := ?_) (by rfl) ?_ ?_; rotate_left 1; (· (intro w' hS; go_simp; (try (simp only [↓IntWalk.iteOmega]; go_simp)); (try simp (disch := omega) only [IntWalk.i64_in]); try with_reducible rfl)); simp only [Act.put, List.setIfInBounds_toArray, List.set_cons_zero, List.set_cons_succ]) | (refine qs_run (v := ?_) (by rfl) ?_ ?_; rotate_left 1; (· (intro j w' hS; go_simp; (try (simp only [↓IntWalk.iteOmega]; go_simp)); (try simp (disch := omega) only [IntWalk.i64_in]); try with_reducible rfl)); simp only [Act.put, List.setIfInBounds_toArray, List.set_cons_zero, List.set_cons_succ]) | (refine qs_mid (v := ?_) (by rfl) ?_ ?_; rotate_left 1; (· (intro j w' hj1 hj2 hS; go_simp; (try (simp only [↓IntWalk.iteOmega]; go_simp)); (try simp (disch := omega) only [IntWalk.i64_in]); try with_reducible rfl)); simp only [Act.put, List.setIfInBounds_toArray, List.set_cons_zero, List.set_cons_succ]) | (refine qs_skip (by rfl) ?_; simp only [Act.put, List.setIfInBounds_toArray, List.set_cons_zero, List.set_cons_succ])))
  obtain ⟨wx, hwx⟩ : ∃ v, v = w7.drew := ⟨_, rfl⟩
  rw [← hwx] at f0 f1 C7d ⊢
  clear hwx
  refine qs_act ?_
  go_wp2_with fail
  obtain ⟨w8, hw8⟩ : ∃ v, v = wx.setCell ⟨bb, 37, none⟩ (.int .i64 i.snap) := ⟨_, rfl⟩
  have C8 := Lib.hid (show EnC w ib rb eb bb i ⟨i.kind, zKey, zPl, i.snap, 0, zSl⟩ w8 by
    have h1 : Blk w8 bb 56 (itC ⟨i.kind, zKey, zPl, i.snap, 0, zSl⟩).toArray := by
      have h2 := C7d.out.bare.put 37 (.int .i64 i.snap)
      have h3 := put_snap ⟨i.kind, zKey, zPl, 0, 0, zSl⟩ i.snap
      rw [hw8]
      exact h3 ▸ h2
    exact C7d.out.turnBare h1 (by rw [hw8]; exact grown_put _ ⟨bb, 37, none⟩ _))
  rw [← hw8]
  clear hw8 f0 f1
  refine ⟨⟨itC_cell C8.out.item (it_snap i), itC_cell C8.out.item (it_unit i), C8.out.item.part 39 _ (it_sl i)⟩, ?_⟩
  (repeat (first | ((refine qs_row (by rfl) 54 (.tmp 85) (by rfl) ib 39 (by rfl) (slC i.sl) _ (fun j w' _ h2 h => h.2.2) Tryz.underlying54 rfl (slC_info _) ?_); simp only [Act.put, List.setIfInBounds_toArray, List.set_cons_zero, List.set_cons_succ]) | (refine qs_now (v := ?_) (by rfl) ?_ ?_; rotate_left 1; (· (intro w' hS; go_simp; (try (simp only [↓IntWalk.iteOmega]; go_simp)); (try simp (disch := omega) only [IntWalk.i64_in]); try with_reducible rfl)); simp only [Act.put, List.setIfInBounds_toArray, List.set_cons_zero, List.set_cons_succ]) | (refine qs_run (v := ?_) (by rfl) ?_ ?_; rotate_left 1; (· (intro j w' hS; go_simp; (try (simp only [↓IntWalk.iteOmega]; go_simp)); (try simp (disch := omega) only [IntWalk.i64_in]); try with_reducible rfl)); simp only [Act.put, List.setIfInBounds_toArray, List.set_cons_zero, List.set_cons_succ]) | (refine qs_mid (v := ?_) (by rfl) ?_ ?_; rotate_left 1; (· (intro j w' hj1 hj2 hS; go_simp; (try (simp only [↓IntWalk.iteOmega]; go_simp)); (try simp (disch := omega) only [IntWalk.i64_in]); try with_reducible rfl)); simp only [Act.put, List.setIfInBounds_toArray, List.set_cons_zero, List.set_cons_succ]) | (refine qs_skip (by rfl) ?_; simp only [Act.put, List.setIfInBounds_toArray, List.set_cons_zero, List.set_cons_succ])))
  refine qs_act ?_
  have f0 : w8.cell? ⟨bb, 38, none⟩ = some (.int .i64 0) := itC_cell C8.out.bare (it_unit _)
  have f1 := C8.out.bare.free 38
  go_wp2_with fail
  obtain ⟨w9, hw9⟩ : ∃ v, v = w8.setCell ⟨bb, 38, none⟩ (.int .i64 i.unit) := ⟨_, rfl⟩
  have C9 := Lib.hid (show EnC w ib rb eb bb i ⟨i.kind, zKey, zPl, i.snap, i.unit, zSl⟩ w9 by
    have h1 : Blk w9 bb 56 (itC ⟨i.kind, zKey, zPl, i.snap, i.unit, zSl⟩).toArray := by
      have h2 := C8.out.bare.put 38 (.int .i64 i.unit)
      have h3 := put_unit ⟨i.kind, zKey, zPl, i.snap, 0, zSl⟩ i.unit
      rw [hw9]
      exact h3 ▸ h2
    exact C8.out.turnBare h1 (by rw [hw9]; exact grown_put _ ⟨bb, 38, none⟩ _))
  rw [← hw9]
  clear hw9 f0 f1
  refine ⟨⟨itC_cell C9.out.item (it_snap i), itC_cell C9.out.item (it_unit i), C9.out.item.part 39 _ (it_sl i)⟩, ?_⟩
  (repeat (first | ((refine qs_row (by rfl) 54 (.tmp 85) (by rfl) ib 39 (by rfl) (slC i.sl) _ (fun j w' _ h2 h => h.2.2) Tryz.underlying54 rfl (slC_info _) ?_); simp only [Act.put, List.setIfInBounds_toArray, List.set_cons_zero, List.set_cons_succ]) | (refine qs_now (v := ?_) (by rfl) ?_ ?_; rotate_left 1; (· (intro w' hS; go_simp; (try (simp only [↓IntWalk.iteOmega]; go_simp)); (try simp (disch := omega) only [IntWalk.i64_in]); try with_reducible rfl)); simp only [Act.put, List.setIfInBounds_toArray, List.set_cons_zero, List.set_cons_succ]) | (refine qs_run (v := ?_) (by rfl) ?_ ?_; rotate_left 1; (· (intro j w' hS; go_simp; (try (simp only [↓IntWalk.iteOmega]; go_simp)); (try simp (disch := omega) only [IntWalk.i64_in]); try with_reducible rfl)); simp only [Act.put, List.setIfInBounds_toArray, List.set_cons_zero, List.set_cons_succ]) | (refine qs_mid (v := ?_) (by rfl) ?_ ?_; rotate_left 1; (· (intro j w' hj1 hj2 hS; go_simp; (try (simp only [↓IntWalk.iteOmega]; go_simp)); (try simp (disch := omega) only [IntWalk.i64_in]); try with_reducible rfl)); simp only [Act.put, List.setIfInBounds_toArray, List.set_cons_zero, List.set_cons_succ]) | (refine qs_skip (by rfl) ?_; simp only [Act.put, List.setIfInBounds_toArray, List.set_cons_zero, List.set_cons_succ])))
  refine qs_act ?_
  go_wp2_with ((with_reducible show wpList _ _ _ (_ :: _) _ _); refine wpl_put rfl 54 (.tmp 89) (.tmp 86) (by rfl) bb 39 (slC i.sl) (by rfl) (by rfl) 56 _ C9.out.bare (slC_info _) (by simp [itC_len, slC_len]) (slC_one _) ?_; intro w10 hk hg hz; rw [put_sl] at hk; have C10 := Lib.hid (show EnC w ib rb eb bb i bb0 w10 from by have := C9.out.turnBare hk hg; rw [HBd.out]; unfold bareI; rw [HK.out] at this ⊢; exact this); clear hk hg hz; simp only [Act.put, List.setIfInBounds_toArray, List.set_cons_zero, List.set_cons_succ])
  refine ⟨⟨itC_cell C10.out.item (it_snap i), itC_cell C10.out.item (it_unit i), C10.out.item.part 39 _ (it_sl i)⟩, ?_⟩
  refine qs_nil ?_
  clear C7 C7d C8 C9 c0
  have RS := Lib.hid (C10.out.item.part 39 _ (it_sl i))
  go_upto_region 19 with (first
    | ((with_reducible show wpList _ _ _ (_ :: _) _ _); refine wpList_load_mid rfl 54 (.tmp 90) (by rfl) ib 39 (by rfl) (slC i.sl) _ RS.out Tryz.underlying54 rfl (slC_info _) ?_; simp only [Act.put, List.setIfInBounds_toArray, List.set_cons_zero, List.set_cons_succ])
    | ((with_reducible show wpList _ _ _ (_ :: _) _ _); refine wpl_alloc rfl 54 (by rfl) Tryz.zeroValue54 34 rfl ?_; intro w11 cs hk hc hg hz; have K11 := Lib.hid hk; have D11 := Lib.hid hc; have L11 := Lib.hid (bl_n (Below.refl _ w10) hg); clear hk hc hg hz; simp only [Act.put, List.setIfInBounds_toArray, List.set_cons_zero, List.set_cons_succ])
    | ((with_reducible show wpList _ _ _ (_ :: _) _ _); refine wpl_over rfl 54 (.tmp 12) (.tmp 91) (by rfl) w10.heap.size (slC i.sl) (by rfl) (by rfl) _ cs K11.out (slC_info _) (by rw [D11.out, slC_len]) (slC_one _) ?_; intro w12 hk hg hz; have K12 := Lib.hid hk; have L12 := Lib.hid (bl_g L11.out hg (Nat.le_refl _)); clear hk hg hz; simp only [Act.put, List.setIfInBounds_toArray, List.set_cons_zero, List.set_cons_succ]))
  have C12 := Lib.hid (C10.out.below L12.out)
  have p0 := itC_cell C12.out.item (it_snap i)
  have p1 := itC_cell C12.out.item (it_unit i)
  have p2 := K12.out.cell (i := 32) (v := .int .i64 i.sl.off) (by rw [List.getElem?_toArray]; exact slC_off i.sl)
  have p3 := K12.out.cell (i := 33) (v := .int .i64 i.sl.mask) (by rw [List.getElem?_toArray]; exact slC_mask i.sl)
  obtain ⟨q0, h0⟩ : ∃ b, b = inB i.snap 0 1073741824 := ⟨_, rfl⟩
  obtain ⟨q1, h1⟩ : ∃ b, b = inB i.unit 0 511 := ⟨_, rfl⟩
  obtain ⟨q2, h2⟩ : ∃ b, b = inB i.sl.off 0 15 := ⟨_, rfl⟩
  obtain ⟨q3, h3⟩ : ∃ b, b = inB i.sl.mask 1 255 := ⟨_, rfl⟩
  have HF := Lib.hid (show fb = (q0 && q1 && q2 && q3) by rw [HFb.out, h0, h1, h2, h3]; unfold fineI; rw [HK.out]; rfl)
  have H0 := Lib.hid h0
  have H1 := Lib.hid h1
  have H2 := Lib.hid h2
  have H3 := Lib.hid h3
  clear h0 h1 h2 h3
  go_cut [8] (fun cv wx => cv = .bool fb ∧ w12 = wx)
  case first =>
    as_aux_lemma =>
      cases q0 <;> cases q1 <;> cases q2 <;> cases q3
      all_goals
        go_wp2_with (first
          | (go_at_call 117; (with_reducible show Calls _ _ #[_, Value.int .i64 0, Value.int .i64 1073741824] _ _); refine (ent_w H0.out _).mono ?_; rintro e w13 ⟨rfl, rfl⟩)
          | (go_at_call 117; (with_reducible show Calls _ _ #[_, Value.int .i64 0, Value.int .i64 511] _ _); refine (ent_w H1.out _).mono ?_; rintro e w13 ⟨rfl, rfl⟩)
          | (go_at_call 117; (with_reducible show Calls _ _ #[_, Value.int .i64 0, Value.int .i64 15] _ _); refine (ent_w H2.out _).mono ?_; rintro e w13 ⟨rfl, rfl⟩)
          | (go_at_call 117; (with_reducible show Calls _ _ #[_, Value.int .i64 1, Value.int .i64 255] _ _); refine (ent_w H3.out _).mono ?_; rintro e w13 ⟨rfl, rfl⟩))
        go_meet
        exact ⟨by rw [HF.out]; rfl, rfl⟩
  case rest =>
  obtain ⟨rfl, rfl⟩ := hcut
  go_upto_region 21 with (go_at_call 118; refine (four_any C12.out.ent _ _ _ _ (by omega) (by omega)).mono ?_; rintro e w14 ⟨rfl, he, hg⟩; have C14 := Lib.hid (C12.out.turnEnt he hg); have K14 := Lib.hid (K12.out.grown hg (by have := C10.out.ent.lt; simp; omega)); clear he hg)
  clear p0 p1 p2 p3
  refine wp_region_qs (fun _ w' => w'.cell? ⟨ib, 38, none⟩ = some (.int .i64 i.unit)) [(0, some 1), (1, some 0), (2, some 1), (3, some 0), (4, none)] (by kernel_rfl) (by kernel_rfl) (by kernel_rfl) (by kernel_rfl) (by kernel_rfl) (fun _ _ _ _ _ h => h) (itC_cell (C14.out.below (Below.refl _ _).drew).item (it_unit i)) ?_
  simp only [List.map_cons, List.map_nil, List.getD_cons_succ, List.getD_cons_zero]
  (repeat (first | (refine qs_now (v := ?_) (by rfl) ?_ ?_; rotate_left 1; (· (intro w' hS; go_simp; (try (simp only [↓IntWalk.iteOmega]; go_simp)); (try simp (disch := omega) only [IntWalk.i64_in]); try with_reducible rfl)); simp only [Act.put, List.setIfInBounds_toArray, List.set_cons_zero, List.set_cons_succ]) | (refine qs_run (v := ?_) (by rfl) ?_ ?_; rotate_left 1; (· (intro j w' hS; go_simp; (try (simp only [↓IntWalk.iteOmega]; go_simp)); (try simp (disch := omega) only [IntWalk.i64_in]); try with_reducible rfl)); simp only [Act.put, List.setIfInBounds_toArray, List.set_cons_zero, List.set_cons_succ]) | (refine qs_mid (v := ?_) (by rfl) ?_ ?_; rotate_left 1; (· (intro j w' hj1 hj2 hS; go_simp; (try (simp only [↓IntWalk.iteOmega]; go_simp)); (try simp (disch := omega) only [IntWalk.i64_in]); try with_reducible rfl)); simp only [Act.put, List.setIfInBounds_toArray, List.set_cons_zero, List.set_cons_succ]) | (refine qs_skip (by rfl) ?_; simp only [Act.put, List.setIfInBounds_toArray, List.set_cons_zero, List.set_cons_succ])))
  refine qs_act ?_
  go_wp2_with (go_at_call 118; refine (four_any (C14.out.below (Below.refl _ _).drew).ent _ _ _ _ (by omega) (by omega)).mono ?_; rintro e w15 ⟨rfl, he, hg⟩; have C15 := Lib.hid ((C14.out.below (Below.refl _ _).drew).turnEnt he hg); have K15 := Lib.hid (K14.out.drew.grown hg (by have := C10.out.ent.lt; simp; omega)); clear he hg)
  refine ⟨itC_cell C15.out.item (it_unit i), ?_⟩
  refine qs_nil ?_
  go_upto_region 23 with (first
    | ((with_reducible show wpList _ _ _ (_ :: _) _ _); refine wpl_slkey rfl (.tmp 120) (by rfl) w10.heap.size 0 (by rfl) ?_; simp only [Act.put, List.setIfInBounds_toArray, List.set_cons_zero, List.set_cons_succ])
    | ((with_reducible show wpList _ _ _ (_ :: _) _ _); refine wpl_ecopy rfl (.tmp 119) (.tmp 121) (by rfl) eb 40 40 40 w10.heap.size 0 i.sl.key C15.out.ent (by rfl) (by rfl) (K15.out.part 0 _ (slC_key2 i.sl)) (by omega) (by omega) ?_; intro w16 he hg; have C16 := Lib.hid (C15.out.turnEnt he hg); have K16 := Lib.hid (K15.out.grown hg (by have := C10.out.ent.lt; simp; omega)); clear he hg; simp only [Act.put, List.setIfInBounds_toArray, List.set_cons_zero, List.set_cons_succ]))
  have p2 := K16.out.cell (i := 32) (v := .int .i64 i.sl.off) (by rw [List.getElem?_toArray]; exact slC_off i.sl)
  have p3 := K16.out.cell (i := 33) (v := .int .i64 i.sl.mask) (by rw [List.getElem?_toArray]; exact slC_mask i.sl)
  obtain ⟨z2, e2, g2⟩ := C16.out.ent.cell (j := 72) (by omega)
  obtain ⟨z3, e3, g3⟩ := C16.out.ent.cell (j := 73) (by omega)
  go_upto_region 28 with fail
  obtain ⟨wc, hwc⟩ : ∃ v, v = (w16.setCell ⟨eb, 72, none⟩ (.int .u8 (i.sl.off % 256))).setCell ⟨eb, 73, none⟩ (.int .u8 (i.sl.mask % 256)) := ⟨_, rfl⟩
  have C := Lib.hid (show EnC w ib rb eb bb i bb0 wc by
    have h1 := C16.out.turnEnt (C16.out.ent.put 72 (i.sl.off % 256)) (grown_put _ ⟨eb, 72, none⟩ _)
    have h2 := h1.turnEnt (h1.ent.put 73 (i.sl.mask % 256)) (grown_put _ ⟨eb, 73, none⟩ _)
    rw [hwc]
    exact h2)
  rw [← hwc]
  clear hwc p2 p3 e2 g2 e3 g3 C16 K16 C15 K15 C14 K14 C12 K12 C10 RS
  obtain ⟨zr, hzr, hrb⟩ := C.out.res
  have RB := Lib.hid hrb
  have HZr := Lib.hid hzr
  have HLo := Lib.hid (show w.heap.size ≤ rb by have := C.out.lo; omega)
  clear hrb hzr
  have fq := fun W => it_neq (by have := HBb.out; exact this) HB.out W
  cases fb
  case false =>
    have HRt := Lib.hid (show rightI i = false by unfold rightI; rw [← HFb.out]; rfl)
    clear fq
    go_wp2_with (first
      | ((with_reducible show wpList _ _ _ (_ :: _) _ _); refine wpl_mk rfl 155 #[] (by rfl) [] (by rfl) _ built_en0 ?_; simp only [Act.put, List.setIfInBounds_toArray, List.set_cons_zero, List.set_cons_succ])
      | ((with_reducible show wpList _ _ _ (_ :: _) _ _); refine wpl_over rfl 155 (.tmp 2) (.tmp 155) (by rfl) rb ((entZ 0 79).map (Value.int .u8)) (by rfl) (by rfl) _ _ RB.out (ent_info _ rfl) (by have h := HZr.out; simp [entZ_len, h]) (ent_one _) ?_; intro w90 hk hg hz; have K90 := Lib.hid hk; have L90 := Lib.hid (bl_g C.out.low hg HLo.out); clear hk hg hz; simp only [Act.put, List.setIfInBounds_toArray, List.set_cons_zero, List.set_cons_succ]))
    refine bodyPost_ret (results_blk_tmp rfl _ rb rfl _ _ K90.out _ Tryz.underlying155 rfl 80 (by kernel_rfl) rfl) rfl ?_
    exact ⟨entZ 0 79, rfl, by rw [HRt.out]; rfl, L90.out⟩
  case true =>
    by_cases he : bb0 = i
    · have d1 : decide (bb0 = i) = true := decide_eq_true he
      have HRt := Lib.hid (show rightI i = true by unfold rightI; rw [← HFb.out, ← HBd.out, d1]; rfl)
      clear he
      simp only [d1, Bool.not_true] at fq
      clear d1
      obtain ⟨ze, hze, heb⟩ := C.out.ent
      have ER := Lib.hid (show wc.rangeAt eb 0 (ze.map (Value.int .u8)) by have := heb.range; rwa [toArr] at this)
      have HZe := Lib.hid hze
      clear heb hze
      go_wp2_with (first
        | ((with_reducible show wpList _ _ _ (_ :: _) _ _); refine wpl_guarded (by rfl) ?_; refine wpList_load_mid rfl 56 (.tmp 7) (by rfl) bb 0 (by rfl) (itC bb0) _ C.out.brng Tryz.underlying56 rfl (itC_info _) ?_; simp only [Act.put, List.setIfInBounds_toArray, List.set_cons_zero, List.set_cons_succ])
        | ((with_reducible show wpList _ _ _ (_ :: _) _ _); refine wpl_guarded (by rfl) ?_; refine wpList_load_mid rfl 56 (.tmp 1) (by rfl) ib 0 (by rfl) (itC i) _ C.out.rng Tryz.underlying56 rfl (itC_info _) ?_; simp only [Act.put, List.setIfInBounds_toArray, List.set_cons_zero, List.set_cons_succ])
        | ((with_reducible show wpList _ _ _ (_ :: _) _ _); refine wpList_load_mid rfl 155 (.tmp 4) (by rfl) eb 0 (by rfl) (ze.map (Value.int .u8)) _ ER.out Tryz.underlying155 rfl (ent_info _ HZe.out) ?_; simp only [Act.put, List.setIfInBounds_toArray, List.set_cons_zero, List.set_cons_succ])
        | ((with_reducible show wpList _ _ _ (_ :: _) _ _); refine wpl_over rfl 155 (.tmp 2) (.tmp 156) (by rfl) rb (ze.map (Value.int .u8)) (by rfl) (by rfl) _ _ RB.out (ent_info _ HZe.out) (by have h := HZr.out; have h2 := HZe.out; simp [h, h2]) (ent_one _) ?_; intro w90 hk hg hz; have K90 := Lib.hid hk; have L90 := Lib.hid (bl_g C.out.low hg HLo.out); clear hk hg hz; simp only [Act.put, List.setIfInBounds_toArray, List.set_cons_zero, List.set_cons_succ]))
      refine bodyPost_ret (results_blk_tmp rfl _ rb rfl _ _ K90.out _ Tryz.underlying155 rfl 80 (by kernel_rfl) (by have h2 := HZe.out; simp [h2])) rfl ?_
      exact ⟨ze, HZe.out, by rw [HRt.out]; rfl, L90.out⟩
    · have d1 : decide (bb0 = i) = false := decide_eq_false he
      have HRt := Lib.hid (show rightI i = false by unfold rightI; rw [← HFb.out, ← HBd.out, d1]; rfl)
      clear he
      simp only [d1, Bool.not_false] at fq
      clear d1
      go_wp2_with (first
        | ((with_reducible show wpList _ _ _ (_ :: _) _ _); refine wpl_guarded (by rfl) ?_; refine wpList_load_mid rfl 56 (.tmp 7) (by rfl) bb 0 (by rfl) (itC bb0) _ C.out.brng Tryz.underlying56 rfl (itC_info _) ?_; simp only [Act.put, List.setIfInBounds_toArray, List.set_cons_zero, List.set_cons_succ])
        | ((with_reducible show wpList _ _ _ (_ :: _) _ _); refine wpl_guarded (by rfl) ?_; refine wpList_load_mid rfl 56 (.tmp 1) (by rfl) ib 0 (by rfl) (itC i) _ C.out.rng Tryz.underlying56 rfl (itC_info _) ?_; simp only [Act.put, List.setIfInBounds_toArray, List.set_cons_zero, List.set_cons_succ])
        | ((with_reducible show wpList _ _ _ (_ :: _) _ _); refine wpl_mk rfl 155 #[] (by rfl) [] (by rfl) _ built_en0 ?_; simp only [Act.put, List.setIfInBounds_toArray, List.set_cons_zero, List.set_cons_succ])
        | ((with_reducible show wpList _ _ _ (_ :: _) _ _); refine wpl_over rfl 155 (.tmp 2) (.tmp 155) (by rfl) rb ((entZ 0 79).map (Value.int .u8)) (by rfl) (by rfl) _ _ RB.out (ent_info _ rfl) (by have h := HZr.out; simp [entZ_len, h]) (ent_one _) ?_; intro w90 hk hg hz; have K90 := Lib.hid hk; have L90 := Lib.hid (bl_g C.out.low hg HLo.out); clear hk hg hz; simp only [Act.put, List.setIfInBounds_toArray, List.set_cons_zero, List.set_cons_succ]))
      refine bodyPost_ret (results_blk_tmp rfl _ rb rfl _ _ K90.out _ Tryz.underlying155 rfl 80 (by kernel_rfl) rfl) rfl ?_
      exact ⟨entZ 0 79, rfl, by rw [HRt.out]; rfl, L90.out⟩
theorem entOf_any {w : World} (i : It) (hb : ItB i) : Calls Tryz.prog 102 #[.agg (itC i).toArray] w (EntPost i w) := by
  by_cases h1 : i.kind = 1
  · exact entOf_1 i hb h1
  · by_cases h2 : i.kind = 2
    · exact entOf_2 i hb h2
    · by_cases h3 : i.kind = 3
      · exact entOf_3 i hb h3
      · exact entOf_0 i hb ⟨h1, h2, h3⟩
end Go.Proofs.YtgjjdfhoakailaaGreat
