/-
  what this claim needs of: StS5 (written by cut.py).
-/
import Derived.Test.YtgjjdfhoakailaaGreatBStS4
namespace Go.Proofs.YtgjjdfhoakailaaGreat
open Go.RowKit Go.Maps Go.Sort Go.Shelf
set_option linter.unusedVariables false
set_option linter.unusedSimpArgs false

theorem frC_uni (x : Fr) : (frC x).toArray[34]? = some (.int .i64 x.pl.uni) := by
  rw [List.getElem?_toArray]
  unfold frC
  rw [List.getElem?_append_right (by rw [keyL_len]; omega), keyL_len]
  rfl
theorem puC_unit (x : Pu) : (puC x).toArray[0]? = some (.int .i64 x.unit) := rfl
theorem puC_off (x : Pu) : (puC x).toArray[33]? = some (.int .i64 x.sl.off) := by
  rw [List.getElem?_toArray]
  unfold puC
  rw [List.getElem?_cons_succ]
  exact slC_off x.sl
theorem puC_key (x : Pu) : ((puC x).drop 1).take (keyL x.sl.key).length = keyL x.sl.key := by
  unfold puC slC
  rw [List.drop_succ_cons, List.drop_zero, List.take_left]
theorem puC_sl (x : Pu) : ((puC x).drop 1).take (slC x.sl).length = slC x.sl := by
  unfold puC
  rw [List.drop_succ_cons, List.drop_zero, List.take_length]
set_option maxRecDepth 100000 in
set_option maxHeartbeats 4000000 in
theorem write_any {w : World} {si xi bx mi bs n : Nat} {E : ExM} {f : MpF} {M : SnM} (h : StIs w si xi bx mi bs n E f M) (o : OpV) (A : Option Addr) (c : Nat) (B : Option Addr) (d : Nat) (h0 : OpAt w o A c B d) (hA : Off o.news.length [bx, mi] A) (hB : Off o.puts.length [bx, mi] B) (hn : o.news.length ≤ 100000000) (hm : o.puts.length ≤ 100000000) (hE : E.length ≤ 100000000) :
    Calls Tryz.prog 42 #[.pointer (some ⟨si, 0, none⟩), .agg (opC o A c B d).toArray] w (WrPost si xi bx mi bs n E f M o w) := by
  have H := Lib.hid h
  have H0 := Lib.hid h0
  have OFA := Lib.hid hA
  have OFB := Lib.hid hB
  have HE := Lib.hid hE
  clear h h0 hA hB hE
  have hmm := @run_makeMap Tryz.prog
  go_enter Tryz.func42, Tryz.ntmps42
  go_upto_region 1 with ((with_reducible show wpList _ _ _ (_ :: _) _ _); refine wpl_box rfl 35 (.tmp 1) rfl _ rfl ?_; intro w1 hk hg hz; have K1 := Lib.hid hk; have L1 := Lib.hid (bl_n (Below.refl _ _) hg); have Z1 := Lib.hid hz; clear hk hg hz)
  go_upto_region 2 with fail
  obtain ⟨w2, hw2⟩ : ∃ w2, w2 = w1.alloc (Obj.map #[] 0) := ⟨_, rfl⟩
  have M2 := Lib.hid (show MapIs Tryz.prog 50 vKey klK (Value.int .i64) w2 w1.heap.size ([] : SuM) by rw [hw2]; exact MapIs.made w1 _ _ _ _ _)
  have L2 := Lib.hid (show Below w1.heap.size w1 w2 by rw [hw2]; exact (Below.refl _ _).alloc (Nat.le_refl _) _)
  have Z2 := Lib.hid (show w2.heap.size = w1.heap.size + 1 by rw [hw2]; simp)
  rw [← hw2]
  clear hw2
  go_upto_region 3 with fail
  obtain ⟨w3, hw3⟩ : ∃ w3, w3 = w2.alloc (Obj.map #[] 0) := ⟨_, rfl⟩
  have M3 := Lib.hid (show MapIs Tryz.prog 50 vKey klK Value.bool w3 w2.heap.size ([] : WnM) by rw [hw3]; exact MapIs.made w2 _ _ _ _ _)
  have L3 := Lib.hid (show Below w2.heap.size w2 w3 by rw [hw3]; exact (Below.refl _ _).alloc (Nat.le_refl _) _)
  rw [← hw3]
  clear hw3 hmm
  obtain ⟨b5, hb5⟩ : ∃ b, b = w1.heap.size := ⟨_, rfl⟩
  obtain ⟨b6, hb6⟩ : ∃ b, b = w2.heap.size := ⟨_, rfl⟩
  have C3 := Lib.hid (show WrC w si xi bx mi bs n E f M o A c B d w.heap.size b5 b6 (frM (o.news.take 0)) (wnM (o.puts.take 0)) w3 by
    have z1 := Z1.out
    have z2 := Z2.out
    have hS := H.out
    refine ⟨((H.out.below L1.out).below L2.out).below L3.out, (K1.out.below L2.out K1.out.lt).below L3.out (by omega), ?_, ?_, Tch.below (below_chain (below_chain L1.out L2.out) L3.out), ⟨hS.blk.lt, hS.idx.blk.lt, hS.idx.map.lt, hS.maps.blk.lt, hS.maps.map.lt, fun p hp => (hS.maps.each p hp).lt⟩, by omega⟩
    · rw [hb5]; exact M2.out.below L3.out M2.out.lt
    · rw [hb6]; exact M3.out)
  rw [← hb5, ← hb6]
  clear hb5 hb6 M2 M3 L1 L2 L3 Z1 Z2 K1
  have hc := opc_cells C3.out.op
  obtain ⟨k0, k1, k2, k3, k4, k5⟩ := hc
  go_wp2_with fail
  go_loopg [28] o.news.length (fun k iv wr => ∃ i : Nat, iv = .int .i64 (i : Int) ∧ i ≤ o.news.length ∧ i + k ≤ o.news.length ∧ o.news.length ≤ i + k ∧ thereB E (o.news.take i) = false ∧ WrC w si xi bx mi bs n E f M o A c B d w.heap.size b5 b6 (frM (o.news.take i)) (wnM (o.puts.take 0)) wr)
  case atStart => exact ⟨0, rfl, by omega, by omega, by omega, rfl, C3.out⟩
  case round =>
    obtain ⟨i, rfl, i1, i2, i3, hth, hcc⟩ := hrel
    have CI := Lib.hid hcc
    have HTh := Lib.hid hth
    clear hcc hth C3 k0 k1 k2 k3 k4 k5
    by_cases hi : i < o.news.length
    · have hiI : (i : Int) < (o.news.length : Int) := by omega
      obtain ⟨b, off, hA, hr⟩ := src_part frC_len (CI.out.at H0.out OFA.out OFB.out).news rfl hi
      have HTk := Lib.hid (show frM (o.news.take (i + 1)) = aput (frM (o.news.take i)) o.news[i].key o.news[i].pl.uni by rw [List.take_succ_eq_append_getElem hi, frM_snoc])
      have HT1 := Lib.hid (fun h => there_take hi HTh.out h)
      have HT2 := Lib.hid (fun h => there_bad (E := E) hi h)
      generalize o.news[i] = x at hr HTk HT1 HT2
      subst hA
      have Rg := Lib.hid hr
      clear hr
      go_upto_region 6 with (first
        | ((with_reducible show wpList _ _ _ (_ :: _) _ _); refine wpl_sidx rfl 32 (.tmp 26) (.tmp 28) rfl Tryz.underlying32 Tryz.sizeOf130 b off o.news.length c i rfl rfl hi ?_)
        | ((with_reducible show wpList _ _ _ (_ :: _) _ _); refine wpList_load_mid rfl 130 (.tmp 30) rfl b (off + i * 36) rfl (frC x) _ Rg.out Tryz.underlying130 rfl (frC_info x) ?_)
        | ((with_reducible show wpList _ _ _ (_ :: _) _ _); refine wpl_alloc rfl 130 rfl Tryz.zeroValue130 36 rfl ?_; intro wa cs hk hc hg hz; have K := Lib.hid hk; have Cs := Lib.hid hc; have G := Lib.hid hg; clear hk hc hg hz)
        | ((with_reducible show wpList _ _ _ (_ :: _) _ _); refine wpl_over rfl 130 (.tmp 8) (.tmp 31) rfl wr.heap.size (frC x) rfl rfl _ cs K.out (frC_info x) (by rw [frC_len, Cs.out]) (frC_one x) ?_; intro wb hk hg hz; have K2 := Lib.hid hk; have LB := Lib.hid (bl_g (bl_n (Below.refl _ _) G.out) hg (Nat.le_refl _)); clear hk hg hz))
      have CB := Lib.hid (CI.out.below LB.out)
      have HNb := Lib.hid (show wr.heap.size < wb.heap.size from K2.out.lt)
      clear K Cs G LB Rg
      have KP := Lib.hid (show wb.rangeAt wr.heap.size 0 (keyL x.key) from by have := K2.out.part 0 (keyL x.key) (frC_key x); first | exact this | (rw [toArr] at this; exact this))
      obtain ⟨q, hq⟩ : ∃ q, q = (aget E x.key).getD zPl := ⟨_, rfl⟩
      obtain ⟨bb, hbb⟩ : ∃ b, b = (aget E x.key).isSome := ⟨_, rfl⟩
      have HQ := Lib.hid hq
      have HB := Lib.hid hbb
      clear hq hbb
      have c1 := CB.out.st.c1
      refine wp_region_two (fun _ w' => w'.cell? ⟨si, 1, none⟩ = some (.pointer (some ⟨xi, 0, none⟩)) ∧ w'.rangeAt wr.heap.size 0 (keyL x.key)) [6, 10, 11] [(0, 2), (1, 2), (2, 2), (3, 2), (4, 2), (5, 2)] 6 10 [(7, some 3), (8, some 3), (9, some 3), (10, none), (11, none), (12, some 3)] [(6, none), (7, some 3), (8, some 3), (9, some 3), (11, none), (12, some 3)] (PlR q wb) (fun a v => ((((((((((((a.put (some 33) (.pointer (some ⟨si, 0, none⟩))).put (some 34) (.pointer (some ⟨si, 0, none⟩))).put (some 35) (.pointer (some ⟨si, 1, none⟩))).put (some 36) (.pointer (some ⟨xi, 0, none⟩))).put (some 37) (.pointer (some ⟨wr.heap.size, 0, none⟩))).put (some 38) (.agg (keyL x.key).toArray)).put (some 39) (.tuple #[.agg (plC q).toArray, .bool bb])).put (some 32) (.tuple #[.agg (plC q).toArray, .bool bb])).put (some 40) (.agg (plC q).toArray)).put (some 41) (.bool bb)).put (some 9) v).put (some 10) (.bool bb))) _ _ (by kernel_rfl) rfl rfl (by kernel_rfl) (by kernel_rfl) (by kernel_rfl) (by kernel_rfl) (by kernel_rfl) (by kernel_rfl) (by kernel_rfl) (by kernel_rfl) rfl rfl ⟨c1, KP.out⟩ ?_ ?_
      · simp only [List.map_cons, List.map_nil, List.getD_cons_succ, List.getD_cons_zero]
        (repeat (first | ((first | (refine qs_row (by rfl) 50 (.tmp 37) rfl wr.heap.size 0 rfl (keyL x.key) _ (fun j w' _ h2 h => h.2) Tryz.underlying50 rfl (keyL_info _) ?_)); simp only [Act.put, List.setIfInBounds_toArray, List.set_cons_zero, List.set_cons_succ]) | (refine qs_now (v := ?_) (by rfl) ?_ ?_; rotate_left 1; (· (intro w' hS; go_simp; (try (simp only [↓IntWalk.iteOmega]; go_simp)); (try simp (disch := omega) only [IntWalk.i64_in]); try with_reducible rfl)); simp only [Act.put, List.setIfInBounds_toArray, List.set_cons_zero, List.set_cons_succ]) | (refine qs_run (v := ?_) (by rfl) ?_ ?_; rotate_left 1; (· (intro j w' hS; go_simp; (try (simp only [↓IntWalk.iteOmega]; go_simp)); (try simp (disch := omega) only [IntWalk.i64_in]); try with_reducible rfl)); simp only [Act.put, List.setIfInBounds_toArray, List.set_cons_zero, List.set_cons_succ]) | (refine qs_mid (v := ?_) (by rfl) ?_ ?_; rotate_left 1; (· (intro j w' hj1 hj2 hS; go_simp; (try (simp only [↓IntWalk.iteOmega]; go_simp)); (try simp (disch := omega) only [IntWalk.i64_in]); try with_reducible rfl)); simp only [Act.put, List.setIfInBounds_toArray, List.set_cons_zero, List.set_cons_succ]) | (refine qs_skip (by rfl) ?_; simp only [Act.put, List.setIfInBounds_toArray, List.set_cons_zero, List.set_cons_succ])))
        refine qs_nil ?_
        refine ⟨toHeld ?_, toHeld ?_⟩
        · go_wp2_with (go_at_call 84; refine (x_get' CB.out.st.drew.idx x.key HQ.out HB.out).mono ?_; rintro e w4 ⟨rfl, hb⟩; have L4 := Lib.hid (show Below wb.heap.size wb w4 from below_chain (Below.refl _ _).drew hb); clear hb)
          have C4 := Lib.hid (CB.out.below L4.out)
          have K4 := Lib.hid (K2.out.below L4.out K2.out.lt)
          refine ⟨⟨C4.out.st.c1, K4.out.part 0 (keyL x.key) (frC_key x)⟩, ?_⟩
          (repeat (first | (refine qs_now (v := ?_) (by rfl) ?_ ?_; rotate_left 1; (· (intro w' hS; go_simp; (try (simp only [↓IntWalk.iteOmega]; go_simp)); (try simp (disch := omega) only [IntWalk.i64_in]); try with_reducible rfl)); simp only [Act.put, List.setIfInBounds_toArray, List.set_cons_zero, List.set_cons_succ]) | (refine qs_run (v := ?_) (by rfl) ?_ ?_; rotate_left 1; (· (intro j w' hS; go_simp; (try (simp only [↓IntWalk.iteOmega]; go_simp)); (try simp (disch := omega) only [IntWalk.i64_in]); try with_reducible rfl)); simp only [Act.put, List.setIfInBounds_toArray, List.set_cons_zero, List.set_cons_succ]) | (refine qs_mid (v := ?_) (by rfl) ?_ ?_; rotate_left 1; (· (intro j w' hj1 hj2 hS; go_simp; (try (simp only [↓IntWalk.iteOmega]; go_simp)); (try simp (disch := omega) only [IntWalk.i64_in]); try with_reducible rfl)); simp only [Act.put, List.setIfInBounds_toArray, List.set_cons_zero, List.set_cons_succ]) | (refine qs_skip (by rfl) ?_; simp only [Act.put, List.setIfInBounds_toArray, List.set_cons_zero, List.set_cons_succ])))
          refine qs_act ?_
          go_wp2_with ((with_reducible show wpList _ _ _ (_ :: _) _ _); refine wpl_alloc rfl 52 rfl Tryz.zeroValue52 4 rfl ?_; intro w5 cs hk hc hg hz; have K := Lib.hid hk; have Cs := Lib.hid hc; have G := Lib.hid hg; clear hk hc hg hz)
          have L5 := Lib.hid (show Below w4.heap.size w4 w5 from bl_n (Below.refl _ _) G.out)
          have C5 := Lib.hid (C4.out.below L5.out)
          have K5 := Lib.hid (K4.out.below L5.out K4.out.lt)
          refine ⟨⟨C5.out.st.c1, K5.out.part 0 (keyL x.key) (frC_key x)⟩, ?_⟩
          refine qs_act ?_
          go_wp2_with ((with_reducible show wpList _ _ _ (_ :: _) _ _); refine wpl_over rfl 52 (.tmp 9) (.tmp 40) rfl w4.heap.size (plC q) rfl rfl _ cs K.out (plC_info q) (by rw [Cs.out]; rfl) (plC_one q) ?_; intro w6 hk hg hz; have K6 := Lib.hid hk; have L6 := Lib.hid (show Below w4.heap.size w4 w6 from bl_g L5.out hg (Nat.le_refl _)); clear hk hg hz)
          have C6 := Lib.hid (C4.out.below L6.out)
          have K46 := Lib.hid (K4.out.below L6.out K4.out.lt)
          refine ⟨⟨C6.out.st.c1, K46.out.part 0 (keyL x.key) (frC_key x)⟩, ?_⟩
          (repeat (first | (refine qs_now (v := ?_) (by rfl) ?_ ?_; rotate_left 1; (· (intro w' hS; go_simp; (try (simp only [↓IntWalk.iteOmega]; go_simp)); (try simp (disch := omega) only [IntWalk.i64_in]); try with_reducible rfl)); simp only [Act.put, List.setIfInBounds_toArray, List.set_cons_zero, List.set_cons_succ]) | (refine qs_run (v := ?_) (by rfl) ?_ ?_; rotate_left 1; (· (intro j w' hS; go_simp; (try (simp only [↓IntWalk.iteOmega]; go_simp)); (try simp (disch := omega) only [IntWalk.i64_in]); try with_reducible rfl)); simp only [Act.put, List.setIfInBounds_toArray, List.set_cons_zero, List.set_cons_succ]) | (refine qs_mid (v := ?_) (by rfl) ?_ ?_; rotate_left 1; (· (intro j w' hj1 hj2 hS; go_simp; (try (simp only [↓IntWalk.iteOmega]; go_simp)); (try simp (disch := omega) only [IntWalk.i64_in]); try with_reducible rfl)); simp only [Act.put, List.setIfInBounds_toArray, List.set_cons_zero, List.set_cons_succ]) | (refine qs_skip (by rfl) ?_; simp only [Act.put, List.setIfInBounds_toArray, List.set_cons_zero, List.set_cons_succ])))
          refine qs_nil ?_
          exact ⟨rfl, _, rfl, _, rfl, L4.out.size, K6.out, below_chain L4.out L6.out⟩
        · go_wp2_with ((with_reducible show wpList _ _ _ (_ :: _) _ _); refine wpl_alloc rfl 52 rfl Tryz.zeroValue52 4 rfl ?_; intro w4 cs hk hc hg hz; have K := Lib.hid hk; have Cs := Lib.hid hc; have L4 := Lib.hid (show Below wb.heap.size wb w4 from bl_n (Below.refl _ _).drew hg); clear hk hc hg hz)
          have C4 := Lib.hid (CB.out.below L4.out)
          have K4 := Lib.hid (K2.out.below L4.out K2.out.lt)
          refine ⟨⟨C4.out.st.c1, K4.out.part 0 (keyL x.key) (frC_key x)⟩, ?_⟩
          refine qs_act ?_
          go_wp2_with (go_at_call 84; refine (x_get' C4.out.st.idx x.key HQ.out HB.out).mono ?_; rintro e w5 ⟨rfl, hb⟩; have L5 := Lib.hid hb; clear hb)
          have C5 := Lib.hid (C4.out.below L5.out)
          have K5 := Lib.hid (K4.out.below L5.out K4.out.lt)
          have Kn := Lib.hid (K.out.below L5.out K.out.lt)
          refine ⟨⟨C5.out.st.c1, K5.out.part 0 (keyL x.key) (frC_key x)⟩, ?_⟩
          (repeat (first | (refine qs_now (v := ?_) (by rfl) ?_ ?_; rotate_left 1; (· (intro w' hS; go_simp; (try (simp only [↓IntWalk.iteOmega]; go_simp)); (try simp (disch := omega) only [IntWalk.i64_in]); try with_reducible rfl)); simp only [Act.put, List.setIfInBounds_toArray, List.set_cons_zero, List.set_cons_succ]) | (refine qs_run (v := ?_) (by rfl) ?_ ?_; rotate_left 1; (· (intro j w' hS; go_simp; (try (simp only [↓IntWalk.iteOmega]; go_simp)); (try simp (disch := omega) only [IntWalk.i64_in]); try with_reducible rfl)); simp only [Act.put, List.setIfInBounds_toArray, List.set_cons_zero, List.set_cons_succ]) | (refine qs_mid (v := ?_) (by rfl) ?_ ?_; rotate_left 1; (· (intro j w' hj1 hj2 hS; go_simp; (try (simp only [↓IntWalk.iteOmega]; go_simp)); (try simp (disch := omega) only [IntWalk.i64_in]); try with_reducible rfl)); simp only [Act.put, List.setIfInBounds_toArray, List.set_cons_zero, List.set_cons_succ]) | (refine qs_skip (by rfl) ?_; simp only [Act.put, List.setIfInBounds_toArray, List.set_cons_zero, List.set_cons_succ])))
          refine qs_act ?_
          go_wp2_with ((with_reducible show wpList _ _ _ (_ :: _) _ _); refine wpl_over rfl 52 (.tmp 9) (.tmp 40) rfl wb.heap.size (plC q) rfl rfl _ cs Kn.out (plC_info q) (by rw [Cs.out]; rfl) (plC_one q) ?_; intro w6 hk hg hz; have K6 := Lib.hid hk; have L6 := Lib.hid (show Below wb.heap.size wb w6 from bl_g (below_chain L4.out L5.out) hg (Nat.le_refl _)); clear hk hg hz)
          have C6 := Lib.hid (CB.out.below L6.out)
          have K46 := Lib.hid (K2.out.below L6.out K2.out.lt)
          refine ⟨⟨C6.out.st.c1, K46.out.part 0 (keyL x.key) (frC_key x)⟩, ?_⟩
          (repeat (first | (refine qs_now (v := ?_) (by rfl) ?_ ?_; rotate_left 1; (· (intro w' hS; go_simp; (try (simp only [↓IntWalk.iteOmega]; go_simp)); (try simp (disch := omega) only [IntWalk.i64_in]); try with_reducible rfl)); simp only [Act.put, List.setIfInBounds_toArray, List.set_cons_zero, List.set_cons_succ]) | (refine qs_run (v := ?_) (by rfl) ?_ ?_; rotate_left 1; (· (intro j w' hS; go_simp; (try (simp only [↓IntWalk.iteOmega]; go_simp)); (try simp (disch := omega) only [IntWalk.i64_in]); try with_reducible rfl)); simp only [Act.put, List.setIfInBounds_toArray, List.set_cons_zero, List.set_cons_succ]) | (refine qs_mid (v := ?_) (by rfl) ?_ ?_; rotate_left 1; (· (intro j w' hj1 hj2 hS; go_simp; (try (simp only [↓IntWalk.iteOmega]; go_simp)); (try simp (disch := omega) only [IntWalk.i64_in]); try with_reducible rfl)); simp only [Act.put, List.setIfInBounds_toArray, List.set_cons_zero, List.set_cons_succ]) | (refine qs_skip (by rfl) ?_; simp only [Act.put, List.setIfInBounds_toArray, List.set_cons_zero, List.set_cons_succ])))
          refine qs_nil ?_
          exact ⟨rfl, _, rfl, _, rfl, Nat.le_refl _, K6.out, L6.out⟩
      rintro v w6 ⟨g, rfl, hg1, hg2, hg3⟩
      have KG := Lib.hid hg2
      have C6 := Lib.hid (CB.out.below hg3)
      have K6 := Lib.hid (K2.out.below hg3 K2.out.lt)
      clear hg1 hg2 hg3 KP c1 CB K2 HNb
      simp only [Act.put, List.setIfInBounds_toArray, List.set_cons_zero, List.set_cons_succ]
      cases bb
      · have hx0 := HT1.out HB.out.symm
        have HX0 := Lib.hid hx0
        clear hx0
        have KN := Lib.hid (K6.out.part 0 (keyL x.key) (frC_key x))
        have cu := K6.out.cell (frC_uni x)
        have HLn := Lib.hid (show (frM (o.news.take i)).length < maxLen by have := frM_len (o.news.take i); rw [List.length_take] at this; unfold maxLen; omega)
        go_wp2_with (first
          | ((with_reducible show wpList _ _ _ (_ :: _) _ _); refine wpList_load_mid rfl 50 (.tmp 44) rfl wr.heap.size 0 rfl (keyL x.key) _ KN.out Tryz.underlying50 rfl (keyL_info _) ?_)
          | ((with_reducible show wpList _ _ _ (_ :: _) _ _); refine wpl_mput rfl 69 (.tmp 43) (.tmp 45) (.tmp 48) rfl keyed_key Tryz.underlying69 C6.out.m5 HLn.out rfl x.key rfl x.pl.uni rfl (klK_inj' _) (keyOf_key _) ?_; intro w7 hm hg; have M7 := Lib.hid hm; have G7 := Lib.hid hg; clear hm hg))
        go_roundg (gk - 1)
        case measure => omega
        case rel => exact ⟨i + 1, by congr 1, by omega, by omega, by omega, HX0.out, by rw [HTk.out]; exact C6.out.put5 M7.out G7.out⟩
      · have HBad := Lib.hid (wrE_there (n := n) (HT2.out HB.out.symm))
        go_wp2_with fail
        go_ret
        unfold WrPost
        rw [HBad.out]
        exact ⟨rfl, C6.out.st, C6.out.tch⟩
    · have hiI : ¬ (i : Int) < (o.news.length : Int) := by omega
      have HAll := Lib.hid (show thereB E o.news = false by have := HTh.out; rwa [List.take_of_length_le (by omega)] at this)
      have C4 := Lib.hid (show WrC w si xi bx mi bs n E f M o A c B d w.heap.size b5 b6 (frM o.news) (wnM (o.puts.take 0)) wr by have := CI.out; rwa [show o.news.take i = o.news from List.take_of_length_le (by omega)] at this)
      clear CI HTh
      have hc := opc_cells C4.out.op
      obtain ⟨k0, k1, k2, k3, k4, k5⟩ := hc
      go_wp2_with fail
      go_loopg [53] o.puts.length (fun k iv wr => ∃ i : Nat, iv = .int .i64 (i : Int) ∧ i ≤ o.puts.length ∧ i + k ≤ o.puts.length ∧ o.puts.length ≤ i + k ∧ (o.puts.take i).all (putOk n E (frM o.news)) = true ∧ WrC w si xi bx mi bs n E f M o A c B d w.heap.size b5 b6 (frM o.news) (wnM (o.puts.take i)) wr)
      case atStart => exact ⟨0, rfl, by omega, by omega, by omega, rfl, C4.out⟩
      case round =>
        clear C4 k0 k1 k2 k3 k4 k5 hi hiI i1 i2 i3
        obtain ⟨i, rfl, i1, i2, i3, hth, hcc⟩ := hrel
        have CI := Lib.hid hcc
        have HTh := Lib.hid hth
        clear hcc hth
        by_cases hi : i < o.puts.length
        · have hiI : (i : Int) < (o.puts.length : Int) := by omega
          obtain ⟨b, off, hA, hr⟩ := src_part puC_len (CI.out.at H0.out OFA.out OFB.out).puts rfl hi
          have HTk := Lib.hid (show wnM (o.puts.take (i + 1)) = aput (wnM (o.puts.take i)) o.puts[i].sl.key true by rw [List.take_succ_eq_append_getElem hi, wnM_snoc])
          have HP1 := Lib.hid (fun h => all_take_succ hi HTh.out h)
          have HP2 := Lib.hid (fun h => all_bad (p := putOk n E (frM o.news)) hi h)
          generalize o.puts[i] = x at hr HTk HP1 HP2
          subst hA
          have Rg := Lib.hid hr
          clear hr
          go_upto_region 14 with (first
            | ((with_reducible show wpList _ _ _ (_ :: _) _ _); refine wpl_sidx rfl 33 (.tmp 51) (.tmp 53) rfl Tryz.underlying33 Tryz.sizeOf132 b off o.puts.length d i rfl rfl hi ?_)
            | ((with_reducible show wpList _ _ _ (_ :: _) _ _); refine wpList_load_mid rfl 132 (.tmp 55) rfl b (off + i * 35) rfl (puC x) _ Rg.out Tryz.underlying132 rfl (puC_info x) ?_)
            | ((with_reducible show wpList _ _ _ (_ :: _) _ _); refine wpl_alloc rfl 132 rfl Tryz.zeroValue132 35 rfl ?_; intro wa cs hk hc hg hz; have K := Lib.hid hk; have Cs := Lib.hid hc; have G := Lib.hid hg; clear hk hc hg hz)
            | ((with_reducible show wpList _ _ _ (_ :: _) _ _); refine wpl_over rfl 132 (.tmp 12) (.tmp 56) rfl wr.heap.size (puC x) rfl rfl _ cs K.out (puC_info x) (by rw [puC_len, Cs.out]) (puC_one x) ?_; intro wb hk hg hz; have K2 := Lib.hid hk; have LB := Lib.hid (bl_g (bl_n (Below.refl _ _) G.out) hg (Nat.le_refl _)); clear hk hg hz))
          have CB := Lib.hid (CI.out.below LB.out)
          have HNb := Lib.hid (show wr.heap.size < wb.heap.size from K2.out.lt)
          clear K Cs G LB Rg
          have KP := Lib.hid (K2.out.part 1 (keyL x.sl.key) (puC_key x))
          obtain ⟨u0, hu0⟩ : ∃ u, u = (aget (frM o.news) x.sl.key).getD 0 := ⟨_, rfl⟩
          obtain ⟨b0, hb0⟩ : ∃ b, b = (aget (frM o.news) x.sl.key).isSome := ⟨_, rfl⟩
          have HV := Lib.hid (show (Value.tuple #[((aget (frM o.news) x.sl.key).map (Value.int .i64)).getD (.int .i64 0), .bool (aget (frM o.news) x.sl.key).isSome]) = .tuple #[.int .i64 u0, .bool b0] by rw [hu0, hb0]; cases aget (frM o.news) x.sl.key <;> rfl)
          have HU0 := Lib.hid hu0
          have HB0 := Lib.hid hb0
          clear hu0 hb0
          go_upto_region 15 with (first
            | ((with_reducible show wpList _ _ _ (_ :: _) _ _); refine wpList_load_mid rfl 50 (.tmp 60) rfl wr.heap.size 1 rfl (keyL x.sl.key) _ KP.out Tryz.underlying50 rfl (keyL_info _) ?_)
            | ((with_reducible show wpList _ _ _ (_ :: _) _ _); refine wpl_mlookOk rfl 69 (.tmp 58) (.tmp 61) rfl keyed_key Tryz.underlying69 CB.out.m5 rfl x.sl.key rfl Tryz.zeroValue3 (klK_inj' _) (keyOf_key _) ?_; rewrite [HV.out]))
          clear KP HV
          cases b0
          · have hnone : aget (frM o.news) x.sl.key = none := by
              have := HB0.out
              cases h : aget (frM o.news) x.sl.key with
              | none => rfl
              | some u => rw [h] at this; cases this
            have HNo := Lib.hid hnone
            clear hnone HU0 HB0
            go_upto_region 16 with fail
            have KP := Lib.hid (show wb.rangeAt wr.heap.size 1 (keyL x.sl.key) from by have := K2.out.part 1 (keyL x.sl.key) (puC_key x); first | exact this | (rw [toArr] at this; exact this))
            obtain ⟨q, hq⟩ : ∃ q, q = (aget E x.sl.key).getD zPl := ⟨_, rfl⟩
            obtain ⟨bb, hbb⟩ : ∃ b, b = (aget E x.sl.key).isSome := ⟨_, rfl⟩
            have HQ := Lib.hid hq
            have HB := Lib.hid hbb
            clear hq hbb
            have c1 := CB.out.st.c1
            refine wp_region_two (fun _ w' => w'.cell? ⟨si, 1, none⟩ = some (.pointer (some ⟨xi, 0, none⟩)) ∧ w'.rangeAt wr.heap.size 1 (keyL x.sl.key)) [7, 11, 12] [(0, 2), (1, 2), (2, 2), (3, 2), (4, 2), (5, 2), (6, 2)] 7 11 [(8, some 3), (9, some 3), (10, some 3), (11, none), (12, none), (13, some 3)] [(7, none), (8, some 3), (9, some 3), (10, some 3), (12, none), (13, some 3)] (PlR q wb) (fun a v => (((((((((((((a.put (some 68) (.pointer (some ⟨si, 0, none⟩))).put (some 69) (.pointer (some ⟨si, 0, none⟩))).put (some 70) (.pointer (some ⟨si, 1, none⟩))).put (some 71) (.pointer (some ⟨xi, 0, none⟩))).put (some 72) (.pointer (some ⟨wr.heap.size, 1, none⟩))).put (some 73) (.pointer (some ⟨wr.heap.size, 1, none⟩))).put (some 74) (.agg (keyL x.sl.key).toArray)).put (some 75) (.tuple #[.agg (plC q).toArray, .bool bb])).put (some 67) (.tuple #[.agg (plC q).toArray, .bool bb])).put (some 76) (.agg (plC q).toArray)).put (some 77) (.bool bb)).put (some 15) v).put (some 16) (.bool bb))) _ _ (by kernel_rfl) rfl rfl (by kernel_rfl) (by kernel_rfl) (by kernel_rfl) (by kernel_rfl) (by kernel_rfl) (by kernel_rfl) (by kernel_rfl) (by kernel_rfl) rfl rfl ⟨c1, KP.out⟩ ?_ ?_
            · simp only [List.map_cons, List.map_nil, List.getD_cons_succ, List.getD_cons_zero]
              (repeat (first | ((first | (refine qs_row (by rfl) 50 (.tmp 73) rfl wr.heap.size 1 rfl (keyL x.sl.key) _ (fun j w' _ h2 h => h.2) Tryz.underlying50 rfl (keyL_info _) ?_)); simp only [Act.put, List.setIfInBounds_toArray, List.set_cons_zero, List.set_cons_succ]) | (refine qs_now (v := ?_) (by rfl) ?_ ?_; rotate_left 1; (· (intro w' hS; go_simp; (try (simp only [↓IntWalk.iteOmega]; go_simp)); (try simp (disch := omega) only [IntWalk.i64_in]); try with_reducible rfl)); simp only [Act.put, List.setIfInBounds_toArray, List.set_cons_zero, List.set_cons_succ]) | (refine qs_run (v := ?_) (by rfl) ?_ ?_; rotate_left 1; (· (intro j w' hS; go_simp; (try (simp only [↓IntWalk.iteOmega]; go_simp)); (try simp (disch := omega) only [IntWalk.i64_in]); try with_reducible rfl)); simp only [Act.put, List.setIfInBounds_toArray, List.set_cons_zero, List.set_cons_succ]) | (refine qs_mid (v := ?_) (by rfl) ?_ ?_; rotate_left 1; (· (intro j w' hj1 hj2 hS; go_simp; (try (simp only [↓IntWalk.iteOmega]; go_simp)); (try simp (disch := omega) only [IntWalk.i64_in]); try with_reducible rfl)); simp only [Act.put, List.setIfInBounds_toArray, List.set_cons_zero, List.set_cons_succ]) | (refine qs_skip (by rfl) ?_; simp only [Act.put, List.setIfInBounds_toArray, List.set_cons_zero, List.set_cons_succ])))
              refine qs_nil ?_
              refine ⟨toHeld ?_, toHeld ?_⟩
              · go_wp2_with (go_at_call 84; refine (x_get' CB.out.st.drew.idx x.sl.key HQ.out HB.out).mono ?_; rintro e w4 ⟨rfl, hb⟩; have L4 := Lib.hid (show Below wb.heap.size wb w4 from below_chain (Below.refl _ _).drew hb); clear hb)
                have C4 := Lib.hid (CB.out.below L4.out)
                have K4 := Lib.hid (K2.out.below L4.out K2.out.lt)
                refine ⟨⟨C4.out.st.c1, K4.out.part 1 (keyL x.sl.key) (puC_key x)⟩, ?_⟩
                (repeat (first | (refine qs_now (v := ?_) (by rfl) ?_ ?_; rotate_left 1; (· (intro w' hS; go_simp; (try (simp only [↓IntWalk.iteOmega]; go_simp)); (try simp (disch := omega) only [IntWalk.i64_in]); try with_reducible rfl)); simp only [Act.put, List.setIfInBounds_toArray, List.set_cons_zero, List.set_cons_succ]) | (refine qs_run (v := ?_) (by rfl) ?_ ?_; rotate_left 1; (· (intro j w' hS; go_simp; (try (simp only [↓IntWalk.iteOmega]; go_simp)); (try simp (disch := omega) only [IntWalk.i64_in]); try with_reducible rfl)); simp only [Act.put, List.setIfInBounds_toArray, List.set_cons_zero, List.set_cons_succ]) | (refine qs_mid (v := ?_) (by rfl) ?_ ?_; rotate_left 1; (· (intro j w' hj1 hj2 hS; go_simp; (try (simp only [↓IntWalk.iteOmega]; go_simp)); (try simp (disch := omega) only [IntWalk.i64_in]); try with_reducible rfl)); simp only [Act.put, List.setIfInBounds_toArray, List.set_cons_zero, List.set_cons_succ]) | (refine qs_skip (by rfl) ?_; simp only [Act.put, List.setIfInBounds_toArray, List.set_cons_zero, List.set_cons_succ])))
                refine qs_act ?_
                go_wp2_with ((with_reducible show wpList _ _ _ (_ :: _) _ _); refine wpl_alloc rfl 52 rfl Tryz.zeroValue52 4 rfl ?_; intro w5 cs hk hc hg hz; have K := Lib.hid hk; have Cs := Lib.hid hc; have G := Lib.hid hg; clear hk hc hg hz)
                have L5 := Lib.hid (show Below w4.heap.size w4 w5 from bl_n (Below.refl _ _) G.out)
                have C5 := Lib.hid (C4.out.below L5.out)
                have K5 := Lib.hid (K4.out.below L5.out K4.out.lt)
                refine ⟨⟨C5.out.st.c1, K5.out.part 1 (keyL x.sl.key) (puC_key x)⟩, ?_⟩
                refine qs_act ?_
                go_wp2_with ((with_reducible show wpList _ _ _ (_ :: _) _ _); refine wpl_over rfl 52 (.tmp 15) (.tmp 76) rfl w4.heap.size (plC q) rfl rfl _ cs K.out (plC_info q) (by rw [Cs.out]; rfl) (plC_one q) ?_; intro w6 hk hg hz; have K6 := Lib.hid hk; have L6 := Lib.hid (show Below w4.heap.size w4 w6 from bl_g L5.out hg (Nat.le_refl _)); clear hk hg hz)
                have C6 := Lib.hid (C4.out.below L6.out)
                have K46 := Lib.hid (K4.out.below L6.out K4.out.lt)
                refine ⟨⟨C6.out.st.c1, K46.out.part 1 (keyL x.sl.key) (puC_key x)⟩, ?_⟩
                (repeat (first | (refine qs_now (v := ?_) (by rfl) ?_ ?_; rotate_left 1; (· (intro w' hS; go_simp; (try (simp only [↓IntWalk.iteOmega]; go_simp)); (try simp (disch := omega) only [IntWalk.i64_in]); try with_reducible rfl)); simp only [Act.put, List.setIfInBounds_toArray, List.set_cons_zero, List.set_cons_succ]) | (refine qs_run (v := ?_) (by rfl) ?_ ?_; rotate_left 1; (· (intro j w' hS; go_simp; (try (simp only [↓IntWalk.iteOmega]; go_simp)); (try simp (disch := omega) only [IntWalk.i64_in]); try with_reducible rfl)); simp only [Act.put, List.setIfInBounds_toArray, List.set_cons_zero, List.set_cons_succ]) | (refine qs_mid (v := ?_) (by rfl) ?_ ?_; rotate_left 1; (· (intro j w' hj1 hj2 hS; go_simp; (try (simp only [↓IntWalk.iteOmega]; go_simp)); (try simp (disch := omega) only [IntWalk.i64_in]); try with_reducible rfl)); simp only [Act.put, List.setIfInBounds_toArray, List.set_cons_zero, List.set_cons_succ]) | (refine qs_skip (by rfl) ?_; simp only [Act.put, List.setIfInBounds_toArray, List.set_cons_zero, List.set_cons_succ])))
                refine qs_nil ?_
                exact ⟨rfl, _, rfl, _, rfl, L4.out.size, K6.out, below_chain L4.out L6.out⟩
              · go_wp2_with ((with_reducible show wpList _ _ _ (_ :: _) _ _); refine wpl_alloc rfl 52 rfl Tryz.zeroValue52 4 rfl ?_; intro w4 cs hk hc hg hz; have K := Lib.hid hk; have Cs := Lib.hid hc; have L4 := Lib.hid (show Below wb.heap.size wb w4 from bl_n (Below.refl _ _).drew hg); clear hk hc hg hz)
                have C4 := Lib.hid (CB.out.below L4.out)
                have K4 := Lib.hid (K2.out.below L4.out K2.out.lt)
                refine ⟨⟨C4.out.st.c1, K4.out.part 1 (keyL x.sl.key) (puC_key x)⟩, ?_⟩
                refine qs_act ?_
                go_wp2_with (go_at_call 84; refine (x_get' C4.out.st.idx x.sl.key HQ.out HB.out).mono ?_; rintro e w5 ⟨rfl, hb⟩; have L5 := Lib.hid hb; clear hb)
                have C5 := Lib.hid (C4.out.below L5.out)
                have K5 := Lib.hid (K4.out.below L5.out K4.out.lt)
                have Kn := Lib.hid (K.out.below L5.out K.out.lt)
                refine ⟨⟨C5.out.st.c1, K5.out.part 1 (keyL x.sl.key) (puC_key x)⟩, ?_⟩
                (repeat (first | (refine qs_now (v := ?_) (by rfl) ?_ ?_; rotate_left 1; (· (intro w' hS; go_simp; (try (simp only [↓IntWalk.iteOmega]; go_simp)); (try simp (disch := omega) only [IntWalk.i64_in]); try with_reducible rfl)); simp only [Act.put, List.setIfInBounds_toArray, List.set_cons_zero, List.set_cons_succ]) | (refine qs_run (v := ?_) (by rfl) ?_ ?_; rotate_left 1; (· (intro j w' hS; go_simp; (try (simp only [↓IntWalk.iteOmega]; go_simp)); (try simp (disch := omega) only [IntWalk.i64_in]); try with_reducible rfl)); simp only [Act.put, List.setIfInBounds_toArray, List.set_cons_zero, List.set_cons_succ]) | (refine qs_mid (v := ?_) (by rfl) ?_ ?_; rotate_left 1; (· (intro j w' hj1 hj2 hS; go_simp; (try (simp only [↓IntWalk.iteOmega]; go_simp)); (try simp (disch := omega) only [IntWalk.i64_in]); try with_reducible rfl)); simp only [Act.put, List.setIfInBounds_toArray, List.set_cons_zero, List.set_cons_succ]) | (refine qs_skip (by rfl) ?_; simp only [Act.put, List.setIfInBounds_toArray, List.set_cons_zero, List.set_cons_succ])))
                refine qs_act ?_
                go_wp2_with ((with_reducible show wpList _ _ _ (_ :: _) _ _); refine wpl_over rfl 52 (.tmp 15) (.tmp 76) rfl wb.heap.size (plC q) rfl rfl _ cs Kn.out (plC_info q) (by rw [Cs.out]; rfl) (plC_one q) ?_; intro w6 hk hg hz; have K6 := Lib.hid hk; have L6 := Lib.hid (show Below wb.heap.size wb w6 from bl_g (below_chain L4.out L5.out) hg (Nat.le_refl _)); clear hk hg hz)
                have C6 := Lib.hid (CB.out.below L6.out)
                have K46 := Lib.hid (K2.out.below L6.out K2.out.lt)
                refine ⟨⟨C6.out.st.c1, K46.out.part 1 (keyL x.sl.key) (puC_key x)⟩, ?_⟩
                (repeat (first | (refine qs_now (v := ?_) (by rfl) ?_ ?_; rotate_left 1; (· (intro w' hS; go_simp; (try (simp only [↓IntWalk.iteOmega]; go_simp)); (try simp (disch := omega) only [IntWalk.i64_in]); try with_reducible rfl)); simp only [Act.put, List.setIfInBounds_toArray, List.set_cons_zero, List.set_cons_succ]) | (refine qs_run (v := ?_) (by rfl) ?_ ?_; rotate_left 1; (· (intro j w' hS; go_simp; (try (simp only [↓IntWalk.iteOmega]; go_simp)); (try simp (disch := omega) only [IntWalk.i64_in]); try with_reducible rfl)); simp only [Act.put, List.setIfInBounds_toArray, List.set_cons_zero, List.set_cons_succ]) | (refine qs_mid (v := ?_) (by rfl) ?_ ?_; rotate_left 1; (· (intro j w' hj1 hj2 hS; go_simp; (try (simp only [↓IntWalk.iteOmega]; go_simp)); (try simp (disch := omega) only [IntWalk.i64_in]); try with_reducible rfl)); simp only [Act.put, List.setIfInBounds_toArray, List.set_cons_zero, List.set_cons_succ]) | (refine qs_skip (by rfl) ?_; simp only [Act.put, List.setIfInBounds_toArray, List.set_cons_zero, List.set_cons_succ])))
                refine qs_nil ?_
                exact ⟨rfl, _, rfl, _, rfl, Nat.le_refl _, K6.out, L6.out⟩
            rintro v w6 ⟨g, rfl, hg1, hg2, hg3⟩
            have KG := Lib.hid hg2
            have C6 := Lib.hid (CB.out.below hg3)
            have K6 := Lib.hid (K2.out.below hg3 K2.out.lt)
            clear hg1 hg2 hg3 KP c1 CB K2 HNb
            simp only [Act.put, List.setIfInBounds_toArray, List.set_cons_zero, List.set_cons_succ]
            have HUn := Lib.hid (show q.uni = uniOf E (frM o.news) x.sl.key by unfold uniOf; rw [HNo.out, ← HQ.out])
            have cq := KG.out.cell (i := 2) (v := .int .i64 q.uni) rfl
            go_upto_region 18 with fail
            clear KG cq HQ HB HNo
            have C7 := Lib.hid (C6.out.below (Below.refl _ _).drew)
            by_cases hu1 : (n : Int) ≤ x.unit
            · have HBad := Lib.hid (wrE_put HAll.out (HP2.out (by unfold putOk; rw [decide_eq_false (by omega)]; rfl)))
              have cu := K6.out.cell (puC_unit x)
              have co := K6.out.cell (puC_off x)
              have cn := C6.out.st.c0
              refine wp_region_qs (fun _ w' => w'.cell? ⟨wr.heap.size, 0, none⟩ = some (.int .i64 x.unit) ∧ w'.cell? ⟨si, 0, none⟩ = some (.int .i64 (n : Int)) ∧ w'.cell? ⟨wr.heap.size, 33, none⟩ = some (.int .i64 x.sl.off)) [(0, some 0), (1, some 0), (2, some 0), (3, some 0), (4, some 0), (5, some 0), (6, some 0), (7, some 0), (8, some 0), (9, some 0), (10, some 0), (11, some 0), (12, some 0), (13, some 0)] (by kernel_rfl) (by kernel_rfl) (by kernel_rfl) (by kernel_rfl) (by kernel_rfl) (fun _ _ _ _ _ h => h) ⟨cu, cn, co⟩ ?_
              simp only [List.map_cons, List.map_nil, List.getD_cons_succ, List.getD_cons_zero]
              (repeat (first | (refine qs_now (v := ?_) (by rfl) ?_ ?_; rotate_left 1; (· (intro w' hS; go_simp; (try (simp only [↓IntWalk.iteOmega]; go_simp)); (try simp (disch := omega) only [IntWalk.i64_in]); try with_reducible rfl)); simp only [Act.put, List.setIfInBounds_toArray, List.set_cons_zero, List.set_cons_succ]) | (refine qs_run (v := ?_) (by rfl) ?_ ?_; rotate_left 1; (· (intro j w' hS; go_simp; (try (simp only [↓IntWalk.iteOmega]; go_simp)); (try simp (disch := omega) only [IntWalk.i64_in]); try with_reducible rfl)); simp only [Act.put, List.setIfInBounds_toArray, List.set_cons_zero, List.set_cons_succ]) | (refine qs_mid (v := ?_) (by rfl) ?_ ?_; rotate_left 1; (· (intro j w' hj1 hj2 hS; go_simp; (try (simp only [↓IntWalk.iteOmega]; go_simp)); (try simp (disch := omega) only [IntWalk.i64_in]); try with_reducible rfl)); simp only [Act.put, List.setIfInBounds_toArray, List.set_cons_zero, List.set_cons_succ]) | (refine qs_skip (by rfl) ?_; simp only [Act.put, List.setIfInBounds_toArray, List.set_cons_zero, List.set_cons_succ])))
              refine qs_nil ?_
              go_wp2_with fail
              go_ret
              unfold WrPost
              rw [HBad.out]
              exact ⟨rfl, C7.out.st, C7.out.tch⟩
            by_cases hu2 : q.uni ≤ x.sl.off
            · have HBad := Lib.hid (wrE_put HAll.out (HP2.out (by unfold putOk; rw [← HUn.out, decide_eq_false (show ¬ x.sl.off < q.uni by omega), Bool.and_false])))
              have cu := K6.out.cell (puC_unit x)
              have co := K6.out.cell (puC_off x)
              have cn := C6.out.st.c0
              refine wp_region_qs (fun _ w' => w'.cell? ⟨wr.heap.size, 0, none⟩ = some (.int .i64 x.unit) ∧ w'.cell? ⟨si, 0, none⟩ = some (.int .i64 (n : Int)) ∧ w'.cell? ⟨wr.heap.size, 33, none⟩ = some (.int .i64 x.sl.off)) [(0, some 0), (1, some 0), (2, some 0), (3, some 0), (4, some 0), (5, some 0), (6, some 0), (7, some 0), (8, some 0), (9, some 0), (10, some 0), (11, some 0), (12, some 0), (13, some 0)] (by kernel_rfl) (by kernel_rfl) (by kernel_rfl) (by kernel_rfl) (by kernel_rfl) (fun _ _ _ _ _ h => h) ⟨cu, cn, co⟩ ?_
              simp only [List.map_cons, List.map_nil, List.getD_cons_succ, List.getD_cons_zero]
              (repeat (first | (refine qs_now (v := ?_) (by rfl) ?_ ?_; rotate_left 1; (· (intro w' hS; go_simp; (try (simp only [↓IntWalk.iteOmega]; go_simp)); (try simp (disch := omega) only [IntWalk.i64_in]); try with_reducible rfl)); simp only [Act.put, List.setIfInBounds_toArray, List.set_cons_zero, List.set_cons_succ]) | (refine qs_run (v := ?_) (by rfl) ?_ ?_; rotate_left 1; (· (intro j w' hS; go_simp; (try (simp only [↓IntWalk.iteOmega]; go_simp)); (try simp (disch := omega) only [IntWalk.i64_in]); try with_reducible rfl)); simp only [Act.put, List.setIfInBounds_toArray, List.set_cons_zero, List.set_cons_succ]) | (refine qs_mid (v := ?_) (by rfl) ?_ ?_; rotate_left 1; (· (intro j w' hj1 hj2 hS; go_simp; (try (simp only [↓IntWalk.iteOmega]; go_simp)); (try simp (disch := omega) only [IntWalk.i64_in]); try with_reducible rfl)); simp only [Act.put, List.setIfInBounds_toArray, List.set_cons_zero, List.set_cons_succ]) | (refine qs_skip (by rfl) ?_; simp only [Act.put, List.setIfInBounds_toArray, List.set_cons_zero, List.set_cons_succ])))
              refine qs_nil ?_
              go_wp2_with fail
              go_ret
              unfold WrPost
              rw [HBad.out]
              exact ⟨rfl, C7.out.st, C7.out.tch⟩
            have HOk := Lib.hid (HP1.out (by unfold putOk; rw [← HUn.out, decide_eq_true (show x.sl.off < q.uni by omega), decide_eq_true (show x.unit < (n : Int) by omega)]; rfl))
            have hu1' : ¬ x.unit ≥ (n : Int) := by omega
            have cu := K6.out.cell (puC_unit x)
            have co := K6.out.cell (puC_off x)
            have cn := C6.out.st.c0
            refine wp_region_qs (fun _ w' => w'.cell? ⟨wr.heap.size, 0, none⟩ = some (.int .i64 x.unit) ∧ w'.cell? ⟨si, 0, none⟩ = some (.int .i64 (n : Int)) ∧ w'.cell? ⟨wr.heap.size, 33, none⟩ = some (.int .i64 x.sl.off)) [(0, some 0), (1, some 0), (2, some 0), (3, some 0), (4, some 0), (5, some 0), (6, some 0), (7, some 0), (8, some 0), (9, some 0), (10, some 0), (11, some 0), (12, some 0), (13, some 0)] (by kernel_rfl) (by kernel_rfl) (by kernel_rfl) (by kernel_rfl) (by kernel_rfl) (fun _ _ _ _ _ h => h) ⟨cu, cn, co⟩ ?_
            simp only [List.map_cons, List.map_nil, List.getD_cons_succ, List.getD_cons_zero]
            (repeat (first | (refine qs_now (v := ?_) (by rfl) ?_ ?_; rotate_left 1; (· (intro w' hS; go_simp; (try (simp only [↓IntWalk.iteOmega]; go_simp)); (try simp (disch := omega) only [IntWalk.i64_in]); try with_reducible rfl)); simp only [Act.put, List.setIfInBounds_toArray, List.set_cons_zero, List.set_cons_succ]) | (refine qs_run (v := ?_) (by rfl) ?_ ?_; rotate_left 1; (· (intro j w' hS; go_simp; (try (simp only [↓IntWalk.iteOmega]; go_simp)); (try simp (disch := omega) only [IntWalk.i64_in]); try with_reducible rfl)); simp only [Act.put, List.setIfInBounds_toArray, List.set_cons_zero, List.set_cons_succ]) | (refine qs_mid (v := ?_) (by rfl) ?_ ?_; rotate_left 1; (· (intro j w' hj1 hj2 hS; go_simp; (try (simp only [↓IntWalk.iteOmega]; go_simp)); (try simp (disch := omega) only [IntWalk.i64_in]); try with_reducible rfl)); simp only [Act.put, List.setIfInBounds_toArray, List.set_cons_zero, List.set_cons_succ]) | (refine qs_skip (by rfl) ?_; simp only [Act.put, List.setIfInBounds_toArray, List.set_cons_zero, List.set_cons_succ])))
            refine qs_nil ?_
            clear cu co cn
            have KN := Lib.hid (K6.out.drew.part 1 (keyL x.sl.key) (puC_key x))
            have HLn := Lib.hid (show (wnM (o.puts.take i)).length < maxLen by have := wnM_len (o.puts.take i); rw [List.length_take] at this; unfold maxLen; omega)
            go_wp2_with (first
              | ((with_reducible show wpList _ _ _ (_ :: _) _ _); refine wpList_load_mid rfl 50 (.tmp 96) rfl wr.heap.size 1 rfl (keyL x.sl.key) _ KN.out Tryz.underlying50 rfl (keyL_info _) ?_)
              | ((with_reducible show wpList _ _ _ (_ :: _) _ _); refine wpl_mput rfl 139 (.tmp 94) (.tmp 97) (.const (.bool true)) rfl keyed_key Tryz.underlying139 C7.out.m6 HLn.out rfl x.sl.key rfl true rfl (klK_inj' _) (keyOf_key _) ?_; intro w7 hm hg; have M7 := Lib.hid hm; have G7 := Lib.hid hg; clear hm hg))
            go_roundg (gk - 1)
            case measure => omega
            case rel => exact ⟨i + 1, by congr 1, by omega, by omega, by omega, HOk.out, by rw [HTk.out]; exact C7.out.put6 M7.out G7.out⟩
          · have hsome : u0 = uniOf E (frM o.news) x.sl.key := by
              have h1 := HB0.out
              have h2 := HU0.out
              unfold uniOf
              cases h : aget (frM o.news) x.sl.key with
              | none => rw [h] at h1; cases h1
              | some u => rw [h] at h2; exact h2
            have HUn := Lib.hid hsome
            clear hsome HU0 HB0
            have C6 := Lib.hid CB.out
            have K6 := Lib.hid K2.out
            clear CB K2
            go_upto_region 18 with fail
            have C7 := Lib.hid (C6.out.below (Below.refl _ _).drew)
            by_cases hu1 : (n : Int) ≤ x.unit
            · have HBad := Lib.hid (wrE_put HAll.out (HP2.out (by unfold putOk; rw [decide_eq_false (by omega)]; rfl)))
              have cu := K6.out.cell (puC_unit x)
              have co := K6.out.cell (puC_off x)
              have cn := C6.out.st.c0
              refine wp_region_qs (fun _ w' => w'.cell? ⟨wr.heap.size, 0, none⟩ = some (.int .i64 x.unit) ∧ w'.cell? ⟨si, 0, none⟩ = some (.int .i64 (n : Int)) ∧ w'.cell? ⟨wr.heap.size, 33, none⟩ = some (.int .i64 x.sl.off)) [(0, some 0), (1, some 0), (2, some 0), (3, some 0), (4, some 0), (5, some 0), (6, some 0), (7, some 0), (8, some 0), (9, some 0), (10, some 0), (11, some 0), (12, some 0), (13, some 0)] (by kernel_rfl) (by kernel_rfl) (by kernel_rfl) (by kernel_rfl) (by kernel_rfl) (fun _ _ _ _ _ h => h) ⟨cu, cn, co⟩ ?_
              simp only [List.map_cons, List.map_nil, List.getD_cons_succ, List.getD_cons_zero]
              (repeat (first | (refine qs_now (v := ?_) (by rfl) ?_ ?_; rotate_left 1; (· (intro w' hS; go_simp; (try (simp only [↓IntWalk.iteOmega]; go_simp)); (try simp (disch := omega) only [IntWalk.i64_in]); try with_reducible rfl)); simp only [Act.put, List.setIfInBounds_toArray, List.set_cons_zero, List.set_cons_succ]) | (refine qs_run (v := ?_) (by rfl) ?_ ?_; rotate_left 1; (· (intro j w' hS; go_simp; (try (simp only [↓IntWalk.iteOmega]; go_simp)); (try simp (disch := omega) only [IntWalk.i64_in]); try with_reducible rfl)); simp only [Act.put, List.setIfInBounds_toArray, List.set_cons_zero, List.set_cons_succ]) | (refine qs_mid (v := ?_) (by rfl) ?_ ?_; rotate_left 1; (· (intro j w' hj1 hj2 hS; go_simp; (try (simp only [↓IntWalk.iteOmega]; go_simp)); (try simp (disch := omega) only [IntWalk.i64_in]); try with_reducible rfl)); simp only [Act.put, List.setIfInBounds_toArray, List.set_cons_zero, List.set_cons_succ]) | (refine qs_skip (by rfl) ?_; simp only [Act.put, List.setIfInBounds_toArray, List.set_cons_zero, List.set_cons_succ])))
              refine qs_nil ?_
              go_wp2_with fail
              go_ret
              unfold WrPost
              rw [HBad.out]
              exact ⟨rfl, C7.out.st, C7.out.tch⟩
            by_cases hu2 : u0 ≤ x.sl.off
            · have HBad := Lib.hid (wrE_put HAll.out (HP2.out (by unfold putOk; rw [← HUn.out, decide_eq_false (show ¬ x.sl.off < u0 by omega), Bool.and_false])))
              have cu := K6.out.cell (puC_unit x)
              have co := K6.out.cell (puC_off x)
              have cn := C6.out.st.c0
              refine wp_region_qs (fun _ w' => w'.cell? ⟨wr.heap.size, 0, none⟩ = some (.int .i64 x.unit) ∧ w'.cell? ⟨si, 0, none⟩ = some (.int .i64 (n : Int)) ∧ w'.cell? ⟨wr.heap.size, 33, none⟩ = some (.int .i64 x.sl.off)) [(0, some 0), (1, some 0), (2, some 0), (3, some 0), (4, some 0), (5, some 0), (6, some 0), (7, some 0), (8, some 0), (9, some 0), (10, some 0), (11, some 0), (12, some 0), (13, some 0)] (by kernel_rfl) (by kernel_rfl) (by kernel_rfl) (by kernel_rfl) (by kernel_rfl) (fun _ _ _ _ _ h => h) ⟨cu, cn, co⟩ ?_
              simp only [List.map_cons, List.map_nil, List.getD_cons_succ, List.getD_cons_zero]
              (repeat (first | (refine qs_now (v := ?_) (by rfl) ?_ ?_; rotate_left 1; (· (intro w' hS; go_simp; (try (simp only [↓IntWalk.iteOmega]; go_simp)); (try simp (disch := omega) only [IntWalk.i64_in]); try with_reducible rfl)); simp only [Act.put, List.setIfInBounds_toArray, List.set_cons_zero, List.set_cons_succ]) | (refine qs_run (v := ?_) (by rfl) ?_ ?_; rotate_left 1; (· (intro j w' hS; go_simp; (try (simp only [↓IntWalk.iteOmega]; go_simp)); (try simp (disch := omega) only [IntWalk.i64_in]); try with_reducible rfl)); simp only [Act.put, List.setIfInBounds_toArray, List.set_cons_zero, List.set_cons_succ]) | (refine qs_mid (v := ?_) (by rfl) ?_ ?_; rotate_left 1; (· (intro j w' hj1 hj2 hS; go_simp; (try (simp only [↓IntWalk.iteOmega]; go_simp)); (try simp (disch := omega) only [IntWalk.i64_in]); try with_reducible rfl)); simp only [Act.put, List.setIfInBounds_toArray, List.set_cons_zero, List.set_cons_succ]) | (refine qs_skip (by rfl) ?_; simp only [Act.put, List.setIfInBounds_toArray, List.set_cons_zero, List.set_cons_succ])))
              refine qs_nil ?_
              go_wp2_with fail
              go_ret
              unfold WrPost
              rw [HBad.out]
              exact ⟨rfl, C7.out.st, C7.out.tch⟩
            have HOk := Lib.hid (HP1.out (by unfold putOk; rw [← HUn.out, decide_eq_true (show x.sl.off < u0 by omega), decide_eq_true (show x.unit < (n : Int) by omega)]; rfl))
            have hu1' : ¬ x.unit ≥ (n : Int) := by omega
            have cu := K6.out.cell (puC_unit x)
            have co := K6.out.cell (puC_off x)
            have cn := C6.out.st.c0
            refine wp_region_qs (fun _ w' => w'.cell? ⟨wr.heap.size, 0, none⟩ = some (.int .i64 x.unit) ∧ w'.cell? ⟨si, 0, none⟩ = some (.int .i64 (n : Int)) ∧ w'.cell? ⟨wr.heap.size, 33, none⟩ = some (.int .i64 x.sl.off)) [(0, some 0), (1, some 0), (2, some 0), (3, some 0), (4, some 0), (5, some 0), (6, some 0), (7, some 0), (8, some 0), (9, some 0), (10, some 0), (11, some 0), (12, some 0), (13, some 0)] (by kernel_rfl) (by kernel_rfl) (by kernel_rfl) (by kernel_rfl) (by kernel_rfl) (fun _ _ _ _ _ h => h) ⟨cu, cn, co⟩ ?_
            simp only [List.map_cons, List.map_nil, List.getD_cons_succ, List.getD_cons_zero]
            (repeat (first | (refine qs_now (v := ?_) (by rfl) ?_ ?_; rotate_left 1; (· (intro w' hS; go_simp; (try (simp only [↓IntWalk.iteOmega]; go_simp)); (try simp (disch := omega) only [IntWalk.i64_in]); try with_reducible rfl)); simp only [Act.put, List.setIfInBounds_toArray, List.set_cons_zero, List.set_cons_succ]) | (refine qs_run (v := ?_) (by rfl) ?_ ?_; rotate_left 1; (· (intro j w' hS; go_simp; (try (simp only [↓IntWalk.iteOmega]; go_simp)); (try simp (disch := omega) only [IntWalk.i64_in]); try with_reducible rfl)); simp only [Act.put, List.setIfInBounds_toArray, List.set_cons_zero, List.set_cons_succ]) | (refine qs_mid (v := ?_) (by rfl) ?_ ?_; rotate_left 1; (· (intro j w' hj1 hj2 hS; go_simp; (try (simp only [↓IntWalk.iteOmega]; go_simp)); (try simp (disch := omega) only [IntWalk.i64_in]); try with_reducible rfl)); simp only [Act.put, List.setIfInBounds_toArray, List.set_cons_zero, List.set_cons_succ]) | (refine qs_skip (by rfl) ?_; simp only [Act.put, List.setIfInBounds_toArray, List.set_cons_zero, List.set_cons_succ])))
            refine qs_nil ?_
            clear cu co cn
            have KN := Lib.hid (K6.out.drew.part 1 (keyL x.sl.key) (puC_key x))
            have HLn := Lib.hid (show (wnM (o.puts.take i)).length < maxLen by have := wnM_len (o.puts.take i); rw [List.length_take] at this; unfold maxLen; omega)
            go_wp2_with (first
              | ((with_reducible show wpList _ _ _ (_ :: _) _ _); refine wpList_load_mid rfl 50 (.tmp 96) rfl wr.heap.size 1 rfl (keyL x.sl.key) _ KN.out Tryz.underlying50 rfl (keyL_info _) ?_)
              | ((with_reducible show wpList _ _ _ (_ :: _) _ _); refine wpl_mput rfl 139 (.tmp 94) (.tmp 97) (.const (.bool true)) rfl keyed_key Tryz.underlying139 C7.out.m6 HLn.out rfl x.sl.key rfl true rfl (klK_inj' _) (keyOf_key _) ?_; intro w7 hm hg; have M7 := Lib.hid hm; have G7 := Lib.hid hg; clear hm hg))
            go_roundg (gk - 1)
            case measure => omega
            case rel => exact ⟨i + 1, by congr 1, by omega, by omega, by omega, HOk.out, by rw [HTk.out]; exact C7.out.put6 M7.out G7.out⟩
        · have hiI : ¬ (i : Int) < (o.puts.length : Int) := by omega
          have HPu := Lib.hid (show o.puts.all (putOk n E (frM o.news)) = true by have := HTh.out; rwa [List.take_of_length_le (by omega)] at this)
          have C4 := Lib.hid (show WrC w si xi bx mi bs n E f M o A c B d w.heap.size b5 b6 (frM o.news) (wnM o.puts) wr by have := CI.out; rwa [show o.puts.take i = o.puts from List.take_of_length_le (by omega)] at this)
          clear CI HTh
          have hc := opc_cells C4.out.op
          obtain ⟨k0, k1, k2, k3, k4, k5⟩ := hc
          go_wp2_with fail
          go_loopg [102] o.news.length (fun k iv wr => ∃ i : Nat, iv = .int .i64 (i : Int) ∧ i ≤ o.news.length ∧ i + k ≤ o.news.length ∧ o.news.length ≤ i + k ∧ (o.news.take i).all (wantedB o.puts) = true ∧ WrC w si xi bx mi bs n E f M o A c B d w.heap.size b5 b6 (frM o.news) (wnM o.puts) wr)
          case atStart => exact ⟨0, rfl, by omega, by omega, by omega, rfl, C4.out⟩
          case round =>
            clear C4 k0 k1 k2 k3 k4 k5 hi hiI i1 i2 i3
            obtain ⟨i, rfl, i1, i2, i3, hth, hcc⟩ := hrel
            have CI := Lib.hid hcc
            have HTh := Lib.hid hth
            clear hcc hth
            by_cases hi : i < o.news.length
            · have hiI : (i : Int) < (o.news.length : Int) := by omega
              obtain ⟨b, off, hA, hr⟩ := src_part frC_len (CI.out.at H0.out OFA.out OFB.out).news rfl hi
              have HP1 := Lib.hid (fun h => all_take_succ hi HTh.out h)
              have HP2 := Lib.hid (fun h => all_bad (p := wantedB o.puts) hi h)
              generalize o.news[i] = x at hr HP1 HP2
              subst hA
              have Rg := Lib.hid hr
              clear hr
              go_upto_region 25 with (first
                | ((with_reducible show wpList _ _ _ (_ :: _) _ _); refine wpl_sidx rfl 32 (.tmp 100) (.tmp 102) rfl Tryz.underlying32 Tryz.sizeOf130 b off o.news.length c i rfl rfl hi ?_)
                | ((with_reducible show wpList _ _ _ (_ :: _) _ _); refine wpList_load_mid rfl 130 (.tmp 104) rfl b (off + i * 36) rfl (frC x) _ Rg.out Tryz.underlying130 rfl (frC_info x) ?_)
                | ((with_reducible show wpList _ _ _ (_ :: _) _ _); refine wpl_alloc rfl 130 rfl Tryz.zeroValue130 36 rfl ?_; intro wa cs hk hc hg hz; have K := Lib.hid hk; have Cs := Lib.hid hc; have G := Lib.hid hg; clear hk hc hg hz)
                | ((with_reducible show wpList _ _ _ (_ :: _) _ _); refine wpl_over rfl 130 (.tmp 18) (.tmp 105) rfl wr.heap.size (frC x) rfl rfl _ cs K.out (frC_info x) (by rw [frC_len, Cs.out]) (frC_one x) ?_; intro wb hk hg hz; have K2 := Lib.hid hk; have LB := Lib.hid (bl_g (bl_n (Below.refl _ _) G.out) hg (Nat.le_refl _)); clear hk hg hz))
              have CB := Lib.hid (CI.out.below LB.out)
              have HNb := Lib.hid (show wr.heap.size < wb.heap.size from K2.out.lt)
              clear K Cs G LB Rg
              have KP := Lib.hid (K2.out.part 0 (keyL x.key) (frC_key x))
              have HV := Lib.hid (wnM_get o.puts x.key)
              by_cases hw : x.key ∈ o.puts.map (·.sl.key)
              · have HOk := Lib.hid (HP1.out (decide_eq_true hw))
                have HD := Lib.hid (decide_eq_true hw)
                clear hw
                go_wp2_with (first
                  | ((with_reducible show wpList _ _ _ (_ :: _) _ _); refine wpList_load_mid rfl 50 (.tmp 107) rfl wr.heap.size 0 rfl (keyL x.key) _ KP.out Tryz.underlying50 rfl (keyL_info _) ?_)
                  | ((with_reducible show wpList _ _ _ (_ :: _) _ _); refine wpl_mlook rfl 139 (.tmp 106) (.tmp 108) rfl keyed_key Tryz.underlying139 CB.out.m6 rfl x.key rfl Tryz.zeroValue4 (klK_inj' _) (keyOf_key _) ?_; rewrite [HV.out, HD.out]))
                go_roundg (gk - 1)
                case measure => omega
                case rel => exact ⟨i + 1, by congr 1, by omega, by omega, by omega, HOk.out, CB.out⟩
              · have HBad := Lib.hid (wrE_want HAll.out HPu.out (HP2.out (decide_eq_false hw)))
                have HD := Lib.hid (decide_eq_false hw)
                clear hw
                go_wp2_with (first
                  | ((with_reducible show wpList _ _ _ (_ :: _) _ _); refine wpList_load_mid rfl 50 (.tmp 107) rfl wr.heap.size 0 rfl (keyL x.key) _ KP.out Tryz.underlying50 rfl (keyL_info _) ?_)
                  | ((with_reducible show wpList _ _ _ (_ :: _) _ _); refine wpl_mlook rfl 139 (.tmp 106) (.tmp 108) rfl keyed_key Tryz.underlying139 CB.out.m6 rfl x.key rfl Tryz.zeroValue4 (klK_inj' _) (keyOf_key _) ?_; rewrite [HV.out, HD.out]))
                go_wp2_with fail
                go_ret
                unfold WrPost
                rw [HBad.out]
                exact ⟨rfl, CB.out.st, CB.out.tch⟩
            · have hiI : ¬ (i : Int) < (o.news.length : Int) := by omega
              have HOk := Lib.hid (wrE_ok HAll.out HPu.out (show o.news.all (wantedB o.puts) = true by have := HTh.out; rwa [List.take_of_length_le (by omega)] at this))
              have C4 := Lib.hid CI.out
              clear CI HTh HAll HPu
              have hc := opc_cells C4.out.op
              obtain ⟨k0, k1, k2, k3, k4, k5⟩ := hc
              go_wp2_with fail
              go_loopg [115] o.news.length (fun k iv wr => ∃ i : Nat, iv = .int .i64 (i : Int) ∧ i ≤ o.news.length ∧ i + k ≤ o.news.length ∧ o.news.length ≤ i + k ∧ WrC w si xi bx mi bs n (addAll E (o.news.take i)) f M o A c B d w.heap.size b5 b6 (frM o.news) (wnM o.puts) wr)
              case atStart => exact ⟨0, rfl, by omega, by omega, by omega, C4.out⟩
              case round =>
                clear C4 k0 k1 k2 k3 k4 k5 hi hiI i1 i2 i3
                obtain ⟨i, rfl, i1, i2, i3, hcc⟩ := hrel
                have CI := Lib.hid hcc
                clear hcc
                by_cases hi : i < o.news.length
                · have hiI : (i : Int) < (o.news.length : Int) := by omega
                  obtain ⟨b, off, hA, hr⟩ := src_part frC_len (CI.out.at H0.out OFA.out OFB.out).news rfl hi
                  have HTk := Lib.hid (show addAll E (o.news.take (i + 1)) = addX (addAll E (o.news.take i)) o.news[i].key o.news[i].pl by rw [List.take_succ_eq_append_getElem hi, addAll_snoc])
                  generalize o.news[i] = x at hr HTk
                  subst hA
                  have Rg := Lib.hid hr
                  clear hr
                  go_upto_region 31 with (first
                    | ((with_reducible show wpList _ _ _ (_ :: _) _ _); refine wpl_sidx rfl 32 (.tmp 113) (.tmp 115) rfl Tryz.underlying32 Tryz.sizeOf130 b off o.news.length c i rfl rfl hi ?_)
                    | ((with_reducible show wpList _ _ _ (_ :: _) _ _); refine wpList_load_mid rfl 130 (.tmp 117) rfl b (off + i * 36) rfl (frC x) _ Rg.out Tryz.underlying130 rfl (frC_info x) ?_)
                    | ((with_reducible show wpList _ _ _ (_ :: _) _ _); refine wpl_alloc rfl 130 rfl Tryz.zeroValue130 36 rfl ?_; intro wa cs hk hc hg hz; have K := Lib.hid hk; have Cs := Lib.hid hc; have G := Lib.hid hg; clear hk hc hg hz)
                    | ((with_reducible show wpList _ _ _ (_ :: _) _ _); refine wpl_over rfl 130 (.tmp 20) (.tmp 118) rfl wr.heap.size (frC x) rfl rfl _ cs K.out (frC_info x) (by rw [frC_len, Cs.out]) (frC_one x) ?_; intro wb hk hg hz; have K2 := Lib.hid hk; have LB := Lib.hid (bl_g (bl_n (Below.refl _ _) G.out) hg (Nat.le_refl _)); clear hk hg hz))
                  have CB := Lib.hid (CI.out.below LB.out)
                  have HNb := Lib.hid (show wr.heap.size < wb.heap.size from K2.out.lt)
                  clear K Cs G LB Rg
                  have HLn := Lib.hid (show (addAll E (o.news.take i)).length ≤ 1000000000 by have := addAll_len E (o.news.take i); have h2 := HE.out; rw [List.length_take] at this; omega)
                  refine wp_region_qs (fun _ w' => (w'.cell? ⟨si, 1, none⟩ = some (.pointer (some ⟨xi, 0, none⟩)) ∧ w'.rangeAt wr.heap.size 0 (keyL x.key)) ∧ w'.rangeAt wr.heap.size 32 (plC x.pl)) [(0, some 1), (1, some 1), (2, some 1), (3, some 0), (4, some 1), (5, some 0), (6, some 1), (7, some 0), (8, none)] (by kernel_rfl) (by kernel_rfl) (by kernel_rfl) (by kernel_rfl) (by kernel_rfl) (fun _ _ _ _ _ h => h) ⟨⟨CB.out.st.c1, K2.out.part 0 (keyL x.key) (frC_key x)⟩, K2.out.part 32 (plC x.pl) (frC_pl x)⟩ ?_
                  simp only [List.map_cons, List.map_nil, List.getD_cons_succ, List.getD_cons_zero]
                  (repeat (first | ((first | (refine qs_row (by rfl) 50 (.tmp 123) rfl wr.heap.size 0 rfl (keyL x.key) _ (fun j w' _ h2 h => h.1.2) Tryz.underlying50 rfl (keyL_info _) ?_) | (refine qs_row (by rfl) 52 (.tmp 125) rfl wr.heap.size 32 rfl (plC x.pl) _ (fun j w' _ h2 h => h.2) Tryz.underlying52 rfl (plC_info _) ?_)); simp only [Act.put, List.setIfInBounds_toArray, List.set_cons_zero, List.set_cons_succ]) | (refine qs_now (v := ?_) (by rfl) ?_ ?_; rotate_left 1; (· (intro w' hS; go_simp; (try (simp only [↓IntWalk.iteOmega]; go_simp)); (try simp (disch := omega) only [IntWalk.i64_in]); try with_reducible rfl)); simp only [Act.put, List.setIfInBounds_toArray, List.set_cons_zero, List.set_cons_succ]) | (refine qs_run (v := ?_) (by rfl) ?_ ?_; rotate_left 1; (· (intro j w' hS; go_simp; (try (simp only [↓IntWalk.iteOmega]; go_simp)); (try simp (disch := omega) only [IntWalk.i64_in]); try with_reducible rfl)); simp only [Act.put, List.setIfInBounds_toArray, List.set_cons_zero, List.set_cons_succ]) | (refine qs_mid (v := ?_) (by rfl) ?_ ?_; rotate_left 1; (· (intro j w' hj1 hj2 hS; go_simp; (try (simp only [↓IntWalk.iteOmega]; go_simp)); (try simp (disch := omega) only [IntWalk.i64_in]); try with_reducible rfl)); simp only [Act.put, List.setIfInBounds_toArray, List.set_cons_zero, List.set_cons_succ]) | (refine qs_skip (by rfl) ?_; simp only [Act.put, List.setIfInBounds_toArray, List.set_cons_zero, List.set_cons_succ])))
                  refine qs_act ?_
                  go_wp2_with (go_at_call 82; refine (x_add CB.out.st.drew.idx x.key x.pl HLn.out).mono ?_; rintro e w4 ⟨rfl, h1, h2⟩; have X4 := Lib.hid h1; have T4 := Lib.hid h2; clear h1 h2)
                  have C5 := Lib.hid ((CB.out.below (Below.refl _ _).drew).newIdx X4.out T4.out)
                  have hob : wr.heap.size ∉ [bx] := by have h1 := CI.out.low; have h2 := CI.out.tch.size; simp; omega
                  have K5 := Lib.hid (K2.out.drew.tch T4.out hob)
                  refine ⟨⟨⟨C5.out.st.c1, K5.out.part 0 (keyL x.key) (frC_key x)⟩, K5.out.part 32 (plC x.pl) (frC_pl x)⟩, ?_⟩
                  refine qs_nil ?_
                  go_wp2_with fail
                  go_roundg (gk - 1)
                  case measure => omega
                  case rel => exact ⟨i + 1, by congr 1, by omega, by omega, by omega, by rw [HTk.out]; exact C5.out⟩
                · have hiI : ¬ (i : Int) < (o.news.length : Int) := by omega
                  have C4 := Lib.hid (show WrC w si xi bx mi bs n (addAll E o.news) f M o A c B d w.heap.size b5 b6 (frM o.news) (wnM o.puts) wr by have := CI.out; rwa [show o.news.take i = o.news from List.take_of_length_le (by omega)] at this)
                  clear CI
                  have hc := opc_cells C4.out.op
                  obtain ⟨k0, k1, k2, k3, k4, k5⟩ := hc
                  go_wp2_with fail
                  go_loopg [132] o.puts.length (fun k iv wr => ∃ i : Nat, iv = .int .i64 (i : Int) ∧ i ≤ o.puts.length ∧ i + k ≤ o.puts.length ∧ o.puts.length ≤ i + k ∧ WrC w si xi bx mi bs n (addAll E o.news) (setAll n f (o.puts.take i)) M o A c B d w.heap.size b5 b6 (frM o.news) (wnM o.puts) wr)
                  case atStart => exact ⟨0, rfl, by omega, by omega, by omega, C4.out⟩
                  case round =>
                    clear C4 k0 k1 k2 k3 k4 k5 hi hiI i1 i2 i3
                    obtain ⟨i, rfl, i1, i2, i3, hcc⟩ := hrel
                    have CI := Lib.hid hcc
                    clear hcc
                    by_cases hi : i < o.puts.length
                    · have hiI : (i : Int) < (o.puts.length : Int) := by omega
                      obtain ⟨b, off, hA, hr⟩ := src_part puC_len (CI.out.at H0.out OFA.out OFB.out).puts rfl hi
                      have HTk := Lib.hid (show setAll n f (o.puts.take (i + 1)) = setF n (setAll n f (o.puts.take i)) o.puts[i].unit o.puts[i].sl by rw [List.take_succ_eq_append_getElem hi, setAll_snoc])
                      generalize o.puts[i] = x at hr HTk
                      subst hA
                      have Rg := Lib.hid hr
                      clear hr
                      go_upto_region 36 with (first
                        | ((with_reducible show wpList _ _ _ (_ :: _) _ _); refine wpl_sidx rfl 33 (.tmp 130) (.tmp 132) rfl Tryz.underlying33 Tryz.sizeOf132 b off o.puts.length d i rfl rfl hi ?_)
                        | ((with_reducible show wpList _ _ _ (_ :: _) _ _); refine wpList_load_mid rfl 132 (.tmp 134) rfl b (off + i * 35) rfl (puC x) _ Rg.out Tryz.underlying132 rfl (puC_info x) ?_)
                        | ((with_reducible show wpList _ _ _ (_ :: _) _ _); refine wpl_alloc rfl 132 rfl Tryz.zeroValue132 35 rfl ?_; intro wa cs hk hc hg hz; have K := Lib.hid hk; have Cs := Lib.hid hc; have G := Lib.hid hg; clear hk hc hg hz)
                        | ((with_reducible show wpList _ _ _ (_ :: _) _ _); refine wpl_over rfl 132 (.tmp 22) (.tmp 135) rfl wr.heap.size (puC x) rfl rfl _ cs K.out (puC_info x) (by rw [puC_len, Cs.out]) (puC_one x) ?_; intro wb hk hg hz; have K2 := Lib.hid hk; have LB := Lib.hid (bl_g (bl_n (Below.refl _ _) G.out) hg (Nat.le_refl _)); clear hk hg hz))
                      have CB := Lib.hid (CI.out.below LB.out)
                      have HNb := Lib.hid (show wr.heap.size < wb.heap.size from K2.out.lt)
                      clear K Cs G LB Rg
                      refine wp_region_qs (fun _ w' => (w'.cell? ⟨si, 2, none⟩ = some (.pointer (some ⟨mi, 0, none⟩)) ∧ w'.rangeAt wr.heap.size 1 (slC x.sl)) ∧ w'.cell? ⟨wr.heap.size, 0, none⟩ = some (.int .i64 x.unit)) [(0, some 1), (1, some 1), (2, some 1), (3, some 0), (4, some 1), (5, some 0), (6, some 1), (7, some 0), (8, none)] (by kernel_rfl) (by kernel_rfl) (by kernel_rfl) (by kernel_rfl) (by kernel_rfl) (fun _ _ _ _ _ h => h) ⟨⟨CB.out.st.c2, K2.out.part 1 (slC x.sl) (puC_sl x)⟩, K2.out.cell (puC_unit x)⟩ ?_
                      simp only [List.map_cons, List.map_nil, List.getD_cons_succ, List.getD_cons_zero]
                      (repeat (first | ((refine qs_row (by rfl) 54 (.tmp 142) rfl wr.heap.size 1 rfl (slC x.sl) _ (fun j w' _ h2 h => h.1.2) Tryz.underlying54 rfl (slC_info _) ?_); simp only [Act.put, List.setIfInBounds_toArray, List.set_cons_zero, List.set_cons_succ]) | (refine qs_now (v := ?_) (by rfl) ?_ ?_; rotate_left 1; (· (intro w' hS; go_simp; (try (simp only [↓IntWalk.iteOmega]; go_simp)); (try simp (disch := omega) only [IntWalk.i64_in]); try with_reducible rfl)); simp only [Act.put, List.setIfInBounds_toArray, List.set_cons_zero, List.set_cons_succ]) | (refine qs_run (v := ?_) (by rfl) ?_ ?_; rotate_left 1; (· (intro j w' hS; go_simp; (try (simp only [↓IntWalk.iteOmega]; go_simp)); (try simp (disch := omega) only [IntWalk.i64_in]); try with_reducible rfl)); simp only [Act.put, List.setIfInBounds_toArray, List.set_cons_zero, List.set_cons_succ]) | (refine qs_mid (v := ?_) (by rfl) ?_ ?_; rotate_left 1; (· (intro j w' hj1 hj2 hS; go_simp; (try (simp only [↓IntWalk.iteOmega]; go_simp)); (try simp (disch := omega) only [IntWalk.i64_in]); try with_reducible rfl)); simp only [Act.put, List.setIfInBounds_toArray, List.set_cons_zero, List.set_cons_succ]) | (refine qs_skip (by rfl) ?_; simp only [Act.put, List.setIfInBounds_toArray, List.set_cons_zero, List.set_cons_succ])))
                      refine qs_act ?_
                      go_wp2_with (go_at_call 83; refine (set_any CB.out.st.drew.maps x.unit x.sl).mono ?_; rintro e w4 ⟨rfl, h1, h2⟩; have X4 := Lib.hid h1; have T4 := Lib.hid h2; clear h1 h2)
                      have C5 := Lib.hid ((CB.out.below (Below.refl _ _).drew).newMap X4.out T4.out)
                      have hob : wr.heap.size ∉ [mi] := by have h1 := CI.out.low; have h2 := CI.out.tch.size; simp; omega
                      have K5 := Lib.hid (K2.out.drew.tch T4.out hob)
                      refine ⟨⟨⟨C5.out.st.c2, K5.out.part 1 (slC x.sl) (puC_sl x)⟩, K5.out.cell (puC_unit x)⟩, ?_⟩
                      refine qs_nil ?_
                      go_wp2_with fail
                      go_roundg (gk - 1)
                      case measure => omega
                      case rel => exact ⟨i + 1, by congr 1, by omega, by omega, by omega, by rw [HTk.out]; exact C5.out⟩
                    · have hiI : ¬ (i : Int) < (o.puts.length : Int) := by omega
                      have C4 := Lib.hid (show WrC w si xi bx mi bs n (addAll E o.news) (setAll n f o.puts) M o A c B d w.heap.size b5 b6 (frM o.news) (wnM o.puts) wr by have := CI.out; rwa [show o.puts.take i = o.puts from List.take_of_length_le (by omega)] at this)
                      clear CI
                      go_wp2_with fail
                      go_ret
                      unfold WrPost
                      rw [HOk.out]
                      exact ⟨rfl, C4.out.st, C4.out.tch⟩
end Go.Proofs.YtgjjdfhoakailaaGreat
