/-
  what this claim needs of: StT3 (written by cut.py).
-/
import Derived.Test.YtgjjdfhoakailaaGreatBStT1
import Derived.Test.YtgjjdfhoakailaaGreatBStE4
namespace Go.Proofs.YtgjjdfhoakailaaGreat
open Go.RowKit Go.Maps Go.Sort Go.Shelf
set_option linter.unusedVariables false
set_option linter.unusedSimpArgs false

theorem itC_ref2 (i : It) : (itC i)[36]? = some (.int .i64 i.pl.ref) := by
  have e : itC i = (.int .u8 i.kind :: keyL i.key) ++ (plC i.pl ++ (.int .i64 i.snap :: .int .i64 i.unit :: slC i.sl)) := rfl
  rw [e, List.getElem?_append_right (by simp [keyL_len])]
  simp [keyL_len, plC]
theorem it_uni (i : It) : (itC i)[35]? = some (.int .i64 i.pl.uni) := by
  have e : itC i = (.int .u8 i.kind :: keyL i.key) ++ (plC i.pl ++ (.int .i64 i.snap :: .int .i64 i.unit :: slC i.sl)) := rfl
  rw [e, List.getElem?_append_right (by simp [keyL_len])]
  simp [keyL_len, plC]
theorem it_off (i : It) : (itC i)[71]? = some (.int .i64 i.sl.off) := by
  have h := it_tail i
  have e : (itC i)[71]? = ((itC i).drop 37)[34]? := by rw [List.getElem?_drop]
  rw [e, h]
  exact slC_off i.sl
theorem zero_It_eq : Tryz.zeroCells56 = (itC zIt).toArray := by kernel_rfl
theorem zero_It (w : World) : (zeroValue 56).run Tryz.prog w = .ok (vIt zIt) w := by
  have := Tryz.zeroValue56 w
  rw [zero_It_eq] at this
  exact this
theorem th_look {S : SnT} {X : ThB} : ((aget S X).map vIt).getD (vIt zIt) = vIt ((aget S X).getD zIt) := by cases aget S X <;> rfl
theorem vTh_stT {i : It} (h : ItB i) : vTh (stT i) = .agg (thC (standsI i)).toArray := vTh_mk (stands_ok h)
def Mk1 (w : World) (l : List It) (n b5 : Nat) (k : Nat) (sv iv : Value) (wr : World) : Prop :=
  ∃ i : Nat, iv = .int .i64 (i : Int) ∧ sv = .int .i64 (snapsN (l.take i) : Int) ∧ i ≤ n ∧ i + k ≤ n ∧ n ≤ i + k ∧ (l.take i).all rightI = true ∧ ((l.take i).map stT).Nodup ∧ MapIs Tryz.prog 149 vTh klTh vIt wr b5 (seenM (l.take i)) ∧ Below w.heap.size w wr
set_option maxRecDepth 100000 in
set_option maxHeartbeats 4000000 in
theorem makes_any {w : World} {A : Option Addr} {n c : Nat} {l : List It} (N : Int) (h : Src w 73 (.slice A n c) n (itsC l)) (hl : l.length = n) (hb : ∀ i ∈ l, ItB i) (hn : n ≤ 1000000) :
    Calls Tryz.prog 64 #[.int .i64 N, .slice A n c] w fun e w' => e = .returned (.bool (makesB N l)) ∧ Below w.heap.size w w' := by
  have H := Lib.hid h
  have HL := Lib.hid hl
  have HB := Lib.hid hb
  clear h hl hb
  have hmm := @run_makeMap Tryz.prog
  go_enter Tryz.func64, Tryz.ntmps64
  go_upto_region 4 with fail
  obtain ⟨w1, hw1⟩ : ∃ w1, w1 = w.alloc (Obj.map #[] 0) := ⟨_, rfl⟩
  have L1 := Lib.hid (show Below w.heap.size w w1 by rw [hw1]; exact (Below.refl _ _).alloc (Nat.le_refl _) _)
  have M1 := Lib.hid (show MapIs Tryz.prog 149 vTh klTh vIt w1 w.heap.size ([] : SnT) by rw [hw1]; exact MapIs.made w _ _ _ _ _)
  rw [← hw1]
  clear hw1 hmm
  go_loopg [6, 25] n (fun k sv iv wr => Mk1 w l n w.heap.size k sv iv wr)
  case atStart => exact ⟨0, rfl, rfl, by omega, by omega, by omega, by simp, by simp, M1.out, L1.out⟩
  case round =>
    obtain ⟨i, rfl, rfl, i1, i2, i3, ha, hnd, hm, hbl⟩ := hrel
    have HA := Lib.hid ha
    have HD := Lib.hid hnd
    have M := Lib.hid hm
    have LB := Lib.hid hbl
    clear ha hnd hm hbl M1 L1
    by_cases hi : i < n
    · have hiI : (i : Int) < (n : Int) := by omega
      have hil : i < l.length := by rw [HL.out]; exact hi
      obtain ⟨b, off, hA, hr⟩ := src_part itC_len (H.out.below LB.out) HL.out hil
      have HXb := Lib.hid (HB.out _ (List.getElem_mem hil))
      have HSn := Lib.hid (show seenM (l.take (i + 1)) = aput (seenM (l.take i)) (stT l[i]) l[i] by rw [List.take_succ_eq_append_getElem hil, seenM_snoc])
      have HCt := Lib.hid (show snapsN (l.take (i + 1)) = snapsN (l.take i) + (if l[i].kind == 3 then 1 else 0) by rw [List.take_succ_eq_append_getElem hil, snapsN_snoc])
      have HNx := Lib.hid (fun h => nd_next hil HD.out h)
      have HNb := Lib.hid (fun h => nd_bad (l := l) hil h)
      have HAx := Lib.hid (fun h => all_take_succ (p := rightI) hil HA.out h)
      have HAb := Lib.hid (fun h => makes_bad1 (units := N) hil h)
      generalize l[i] = x at hr HXb HSn HCt HNx HNb HAx HAb
      subst hA
      have Rg := Lib.hid hr
      clear hr hil
      obtain ⟨y, hy⟩ : ∃ y, y = (aget (seenM (l.take i)) (stT x)).getD zIt := ⟨_, rfl⟩
      obtain ⟨tw, htw⟩ : ∃ y, y = (aget (seenM (l.take i)) (stT x)).isSome := ⟨_, rfl⟩
      have HY := Lib.hid (show ((aget (seenM (l.take i)) (stT x)).map vIt).getD (vIt zIt) = .agg (itC y).toArray by rw [th_look, hy]; rfl)
      have HTw := Lib.hid htw
      obtain ⟨rx, hrx⟩ : ∃ y, y = rightI x := ⟨_, rfl⟩
      have HRx := Lib.hid hrx
      clear hy htw hrx
      have hsn : snapsN (l.take i) ≤ i := by have := snapsN_le (l.take i); rw [List.length_take] at this; omega
      go_upto_region 6 with (first
        | ((with_reducible show wpList _ _ _ (_ :: _) _ _); refine wpl_sidx rfl 41 (.tmp 23) (.tmp 25) (by rfl) Tryz.underlying41 Tryz.sizeOf56 b off n c i (by rfl) (by rfl) hi ?_; simp only [Act.put, List.setIfInBounds_toArray, List.set_cons_zero, List.set_cons_succ])
        | ((with_reducible show wpList _ _ _ (_ :: _) _ _); refine wpList_load_mid rfl 56 (.tmp 27) (by rfl) b (off + i * 73) (by rfl) (itC x) _ Rg.out Tryz.underlying56 rfl (itC_info x) ?_; simp only [Act.put, List.setIfInBounds_toArray, List.set_cons_zero, List.set_cons_succ])
        | ((with_reducible show wpList _ _ _ (_ :: _) _ _); refine wpl_alloc rfl 56 (by rfl) Tryz.zeroValue56 73 zero_It_len ?_; intro wa cs hk hc hg hz; have K := Lib.hid hk; have C := Lib.hid hc; have G := Lib.hid hg; clear hk hc hg hz; simp only [Act.put, List.setIfInBounds_toArray, List.set_cons_zero, List.set_cons_succ])
        | ((with_reducible show wpList _ _ _ (_ :: _) _ _); refine wpl_over rfl 56 (.tmp 8) (.tmp 28) (by rfl) wr.heap.size (itC x) (by rfl) (by rfl) _ cs K.out (itC_info x) (by rw [itC_len, C.out]) (itC_one x) ?_; intro wb hk hg hz; have K2 := Lib.hid hk; have L2 := Lib.hid (bl_g (bl_n (Below.refl _ _) G.out) hg (Nat.le_refl _)); clear hk hg hz; simp only [Act.put, List.setIfInBounds_toArray, List.set_cons_zero, List.set_cons_succ]))
      have M2 := Lib.hid (M.out.below L2.out M.out.lt)
      have R2 := Lib.hid (show wb.rangeAt wr.heap.size 0 (itC x) by have := K2.out.range; rwa [toArr] at this)
      go_upto_region 7 with (first
        | ((with_reducible show wpList _ _ _ (_ :: _) _ _); refine wpList_load_mid rfl 56 (.tmp 8) (by rfl) wr.heap.size 0 (by rfl) (itC x) _ R2.out Tryz.underlying56 rfl (itC_info x) ?_; simp only [Act.put, List.setIfInBounds_toArray, List.set_cons_zero, List.set_cons_succ])
        | (go_at_call 101; refine (stands_any x).mono ?_; rintro e w3 ⟨rfl, hb⟩; have L3 := Lib.hid hb; have M3 := Lib.hid (M2.out.below hb M2.out.lt); clear hb)
        | ((with_reducible show wpList _ _ _ (_ :: _) _ _); refine wpl_mlookOk rfl 146 (.tmp 30) (.tmp 32) (by rfl) keyed_th Tryz.underlying146 M3.out (by rfl) (stT x) (by rw [vTh_stT HXb.out]; rfl) zero_It (klTh_inj' _) (keyOf_th _) ?_; rewrite [HY.out, ← HTw.out]; simp only [Act.put, List.setIfInBounds_toArray, List.set_cons_zero, List.set_cons_succ])
        | ((with_reducible show wpList _ _ _ (_ :: _) _ _); refine wpl_alloc rfl 56 (by rfl) Tryz.zeroValue56 73 zero_It_len ?_; intro w4 cs4 hk hc hg hz; have K4 := Lib.hid hk; have C4 := Lib.hid hc; have L4 := Lib.hid (bl_n L3.out hg); clear hk hc hg hz; simp only [Act.put, List.setIfInBounds_toArray, List.set_cons_zero, List.set_cons_succ])
        | ((with_reducible show wpList _ _ _ (_ :: _) _ _); refine wpl_over rfl 56 (.tmp 9) (.tmp 34) (by rfl) w3.heap.size (itC y) (by rfl) (by rfl) _ cs4 K4.out (itC_info y) (by rw [itC_len, C4.out]) (itC_one y) ?_; intro w5 hk hg hz; have L5 := Lib.hid (bl_g L4.out hg L3.out.size); clear hk hg hz; simp only [Act.put, List.setIfInBounds_toArray, List.set_cons_zero, List.set_cons_succ]))
      have L25 := L5
      have LB5 := Lib.hid (below_chain (below_chain LB.out L2.out) L25.out)
      have M5 := Lib.hid (M2.out.below L25.out M2.out.lt)
      have K5 := Lib.hid (K2.out.below L25.out K2.out.lt)
      have R5 := Lib.hid (show w5.rangeAt wr.heap.size 0 (itC x) by have := K5.out.range; rwa [toArr] at this)
      clear M3 M2 R2 K4 C4 L4 L3 K C G Rg
      cases rx
      case false =>
        go_wp2_with (first
          | ((with_reducible show wpList _ _ _ (_ :: _) _ _); refine wpList_load_mid rfl 56 (.tmp 8) (by rfl) wr.heap.size 0 (by rfl) (itC x) _ R5.out Tryz.underlying56 rfl (itC_info x) ?_; simp only [Act.put, List.setIfInBounds_toArray, List.set_cons_zero, List.set_cons_succ])
          | (go_at_call 102; refine (entOf_any x HXb.out).mono ?_; rintro e w6 ⟨zs6, hz6, rfl, hb⟩; rewrite [← HRx.out]; have HZ6 := Lib.hid hz6; have L6 := Lib.hid hb; clear hz6 hb)
          | ((with_reducible show wpList _ _ _ (_ :: _) _ _); refine wpl_alloc rfl 155 (by rfl) Tryz.zeroValue155 80 (by kernel_rfl) ?_; intro w7a cs7 hk hc hg hz; have K7a := Lib.hid hk; have C7a := Lib.hid hc; have L7a := Lib.hid (bl_n L6.out hg); clear hk hc hg hz; simp only [Act.put, List.setIfInBounds_toArray, List.set_cons_zero, List.set_cons_succ])
          | ((with_reducible show wpList _ _ _ (_ :: _) _ _); refine wpl_over rfl 155 (.tmp 11) (.tmp 39) (by rfl) w6.heap.size (zs6.map (Value.int .u8)) (by rfl) (by rfl) _ cs7 K7a.out (ent_info _ HZ6.out) (by have h := HZ6.out; have h2 := C7a.out; simp [h, h2]) (ent_one _) ?_; intro w7 hk hg hz; have L7 := Lib.hid (bl_g L7a.out hg L6.out.size); clear hk hg hz; simp only [Act.put, List.setIfInBounds_toArray, List.set_cons_zero, List.set_cons_succ]))
        go_ret
        refine ⟨?_, below_chain LB5.out L7.out⟩
        have hf := HAb.out HRx.out.symm
        rw [hf]
        rfl
      case true =>
        cases tw
        case true =>
          go_wp2_with (first
            | ((with_reducible show wpList _ _ _ (_ :: _) _ _); refine wpList_load_mid rfl 56 (.tmp 8) (by rfl) wr.heap.size 0 (by rfl) (itC x) _ R5.out Tryz.underlying56 rfl (itC_info x) ?_; simp only [Act.put, List.setIfInBounds_toArray, List.set_cons_zero, List.set_cons_succ])
            | (go_at_call 102; refine (entOf_any x HXb.out).mono ?_; rintro e w6 ⟨zs6, hz6, rfl, hb⟩; rewrite [← HRx.out]; have HZ6 := Lib.hid hz6; have L6 := Lib.hid hb; clear hz6 hb)
            | ((with_reducible show wpList _ _ _ (_ :: _) _ _); refine wpl_alloc rfl 155 (by rfl) Tryz.zeroValue155 80 (by kernel_rfl) ?_; intro w7a cs7 hk hc hg hz; have K7a := Lib.hid hk; have C7a := Lib.hid hc; have L7a := Lib.hid (bl_n L6.out hg); clear hk hc hg hz; simp only [Act.put, List.setIfInBounds_toArray, List.set_cons_zero, List.set_cons_succ])
            | ((with_reducible show wpList _ _ _ (_ :: _) _ _); refine wpl_over rfl 155 (.tmp 11) (.tmp 39) (by rfl) w6.heap.size (zs6.map (Value.int .u8)) (by rfl) (by rfl) _ cs7 K7a.out (ent_info _ HZ6.out) (by have h := HZ6.out; have h2 := C7a.out; simp [h, h2]) (ent_one _) ?_; intro w7 hk hg hz; have L7 := Lib.hid (bl_g L7a.out hg L6.out.size); clear hk hg hz; simp only [Act.put, List.setIfInBounds_toArray, List.set_cons_zero, List.set_cons_succ]))
          go_ret
          refine ⟨?_, below_chain LB5.out L7.out⟩
          have hf := makes_bad2 (units := N) (HNb.out HTw.out.symm)
          rw [hf]
          rfl
        case false =>
          go_upto_region 10 with (first
            | ((with_reducible show wpList _ _ _ (_ :: _) _ _); refine wpList_load_mid rfl 56 (.tmp 8) (by rfl) wr.heap.size 0 (by rfl) (itC x) _ R5.out Tryz.underlying56 rfl (itC_info x) ?_; simp only [Act.put, List.setIfInBounds_toArray, List.set_cons_zero, List.set_cons_succ])
            | (go_at_call 102; refine (entOf_any x HXb.out).mono ?_; rintro e w6 ⟨zs6, hz6, rfl, hb⟩; rewrite [← HRx.out]; have HZ6 := Lib.hid hz6; have L6 := Lib.hid hb; clear hz6 hb)
            | ((with_reducible show wpList _ _ _ (_ :: _) _ _); refine wpl_alloc rfl 155 (by rfl) Tryz.zeroValue155 80 (by kernel_rfl) ?_; intro w7a cs7 hk hc hg hz; have K7a := Lib.hid hk; have C7a := Lib.hid hc; have L7a := Lib.hid (bl_n L6.out hg); clear hk hc hg hz; simp only [Act.put, List.setIfInBounds_toArray, List.set_cons_zero, List.set_cons_succ])
            | ((with_reducible show wpList _ _ _ (_ :: _) _ _); refine wpl_over rfl 155 (.tmp 11) (.tmp 39) (by rfl) w6.heap.size (zs6.map (Value.int .u8)) (by rfl) (by rfl) _ cs7 K7a.out (ent_info _ HZ6.out) (by have h := HZ6.out; have h2 := C7a.out; simp [h, h2]) (ent_one _) ?_; intro w7 hk hg hz; have L7 := Lib.hid (bl_g L7a.out hg L6.out.size); clear hk hg hz; simp only [Act.put, List.setIfInBounds_toArray, List.set_cons_zero, List.set_cons_succ]))
          have LB7 := Lib.hid (below_chain LB5.out L7.out)
          have M7 := Lib.hid (M5.out.below L7.out M5.out.lt)
          have K7 := Lib.hid (K5.out.below L7.out K5.out.lt)
          have HR7 := Lib.hid (show ∀ W, Below w7.heap.size w7 W → W.rangeAt wr.heap.size 0 (itC x) from fun W hW => by have := (K7.out.below hW K7.out.lt).range; rwa [toArr] at this)
          refine wp_region_qs (fun _ w' => w'.rangeAt wr.heap.size 0 (itC x)) [(0, some 1), (1, some 0), (3, some 1), (2, none), (4, none)] (by kernel_rfl) (by kernel_rfl) (by kernel_rfl) (by kernel_rfl) (by kernel_rfl) (fun _ _ _ _ _ h => h) (HR7.out _ (Below.refl _ _).drew) ?_
          simp only [List.map_cons, List.map_nil, List.getD_cons_succ, List.getD_cons_zero]
          (repeat (first | ((refine qs_row (by rfl) 56 (.tmp 8) (by rfl) wr.heap.size 0 (by rfl) (itC x) _ (fun j w' _ h2 h => h) Tryz.underlying56 rfl (itC_info x) ?_); simp only [Act.put, List.setIfInBounds_toArray, List.set_cons_zero, List.set_cons_succ]) | (refine qs_now (v := ?_) (by rfl) ?_ ?_; rotate_left 1; (· (intro w' hS; go_simp; (try (simp only [↓IntWalk.iteOmega]; go_simp)); (try simp (disch := omega) only [IntWalk.i64_in]); try with_reducible rfl)); simp only [Act.put, List.setIfInBounds_toArray, List.set_cons_zero, List.set_cons_succ]) | (refine qs_run (v := ?_) (by rfl) ?_ ?_; rotate_left 1; (· (intro j w' hS; go_simp; (try (simp only [↓IntWalk.iteOmega]; go_simp)); (try simp (disch := omega) only [IntWalk.i64_in]); try with_reducible rfl)); simp only [Act.put, List.setIfInBounds_toArray, List.set_cons_zero, List.set_cons_succ]) | (refine qs_mid (v := ?_) (by rfl) ?_ ?_; rotate_left 1; (· (intro j w' hj1 hj2 hS; go_simp; (try (simp only [↓IntWalk.iteOmega]; go_simp)); (try simp (disch := omega) only [IntWalk.i64_in]); try with_reducible rfl)); simp only [Act.put, List.setIfInBounds_toArray, List.set_cons_zero, List.set_cons_succ]) | (refine qs_skip (by rfl) ?_; simp only [Act.put, List.setIfInBounds_toArray, List.set_cons_zero, List.set_cons_succ])))
          refine qs_act ?_
          go_wp2_with (go_at_call 101; refine (stands_any x).mono ?_; rintro e w8 ⟨rfl, hb⟩; have L8 := Lib.hid (below_chain (Below.refl _ w7).drew hb); clear hb)
          refine ⟨HR7.out _ L8.out, ?_⟩
          (repeat (first | ((refine qs_row (by rfl) 56 (.tmp 8) (by rfl) wr.heap.size 0 (by rfl) (itC x) _ (fun j w' _ h2 h => h) Tryz.underlying56 rfl (itC_info x) ?_); simp only [Act.put, List.setIfInBounds_toArray, List.set_cons_zero, List.set_cons_succ]) | (refine qs_now (v := ?_) (by rfl) ?_ ?_; rotate_left 1; (· (intro w' hS; go_simp; (try (simp only [↓IntWalk.iteOmega]; go_simp)); (try simp (disch := omega) only [IntWalk.i64_in]); try with_reducible rfl)); simp only [Act.put, List.setIfInBounds_toArray, List.set_cons_zero, List.set_cons_succ]) | (refine qs_run (v := ?_) (by rfl) ?_ ?_; rotate_left 1; (· (intro j w' hS; go_simp; (try (simp only [↓IntWalk.iteOmega]; go_simp)); (try simp (disch := omega) only [IntWalk.i64_in]); try with_reducible rfl)); simp only [Act.put, List.setIfInBounds_toArray, List.set_cons_zero, List.set_cons_succ]) | (refine qs_mid (v := ?_) (by rfl) ?_ ?_; rotate_left 1; (· (intro j w' hj1 hj2 hS; go_simp; (try (simp only [↓IntWalk.iteOmega]; go_simp)); (try simp (disch := omega) only [IntWalk.i64_in]); try with_reducible rfl)); simp only [Act.put, List.setIfInBounds_toArray, List.set_cons_zero, List.set_cons_succ]) | (refine qs_skip (by rfl) ?_; simp only [Act.put, List.setIfInBounds_toArray, List.set_cons_zero, List.set_cons_succ])))
          refine qs_act ?_
          have M8 := Lib.hid (M7.out.below L8.out M7.out.lt)
          have hSl : (seenM (l.take i)).length ≤ i := by have := seenM_len (l.take i); rw [List.length_take] at this; omega
          have HSl := Lib.hid hSl
          clear hSl
          go_wp2_with ((with_reducible show wpList _ _ _ (_ :: _) _ _); refine wpl_mput rfl 146 (.tmp 46) (.tmp 48) (.tmp 49) (by rfl) keyed_th Tryz.underlying146 M8.out (by have := HSl.out; unfold maxLen; omega) (by rfl) (stT x) (by rw [vTh_stT HXb.out]; rfl) x (by rfl) (klTh_inj' _) (keyOf_th _) ?_; intro w9 hm hg; have M9 := Lib.hid hm; have G9 := Lib.hid hg; clear hm hg; simp only [Act.put, List.setIfInBounds_toArray, List.set_cons_zero, List.set_cons_succ])
          have K8 := Lib.hid (K7.out.below L8.out K7.out.lt)
          have K9 := Lib.hid (K8.out.grown G9.out (by have := blk_ne_map M8.out K8.out; simpa using this))
          have LB9 := Lib.hid (bl_g (below_chain LB7.out L8.out) G9.out (Nat.le_refl _))
          refine ⟨(by have := K9.out.range; rwa [toArr] at this), ?_⟩
          refine qs_nil ?_
          have ck := itC_cell K9.out (j := 0) (v := .int .u8 x.kind) rfl
          have M10 := Lib.hid (show MapIs Tryz.prog 149 vTh klTh vIt w9 w.heap.size (seenM (l.take (i + 1))) by rw [HSn.out]; exact M9.out)
          by_cases hk : x.kind = 3
          · have hkb : (x.kind == 3) = true := beq_iff_eq.2 hk
            have HC := Lib.hid (show (snapsN (l.take (i + 1)) : Int) = (snapsN (l.take i) : Int) + 1 by rw [HCt.out, hkb]; simp)
            clear hk
            go_wp2_with fail
            go_roundg (gk - 1)
            case measure => omega
            case rel => exact ⟨i + 1, by congr 1, by rw [HC.out], by omega, by omega, by omega, HAx.out HRx.out.symm, HNx.out HTw.out.symm, M10.out, LB9.out⟩
          · have hkb : (x.kind == 3) = false := beq_eq_false_iff_ne.2 hk
            have HC := Lib.hid (show (snapsN (l.take (i + 1)) : Int) = (snapsN (l.take i) : Int) by rw [HCt.out, hkb]; simp)
            clear hk
            go_wp2_with fail
            go_roundg (gk - 1)
            case measure => omega
            case rel => exact ⟨i + 1, by congr 1, by rw [HC.out], by omega, by omega, by omega, HAx.out HRx.out.symm, HNx.out HTw.out.symm, M10.out, LB9.out⟩
    · have hiI : ¬ (i : Int) < (n : Int) := by omega
      have HAll := Lib.hid (show l.all rightI = true by have := HA.out; rwa [List.take_of_length_le (by rw [HL.out]; omega)] at this)
      have HNd := Lib.hid (show (l.map stT).Nodup by have := HD.out; rwa [List.take_of_length_le (by rw [HL.out]; omega)] at this)
      have MS := Lib.hid (show MapIs Tryz.prog 149 vTh klTh vIt wr w.heap.size (seenM l) by have := M.out; rwa [List.take_of_length_le (by rw [HL.out]; omega)] at this)
      have hsl : l.take i = l := List.take_of_length_le (by rw [HL.out]; omega)
      rw [hsl]
      clear hsl HA HD M
      have hmm := @run_makeMap Tryz.prog
      go_upto_region 15 with fail
      obtain ⟨wq, hwq⟩ : ∃ v, v = wr := ⟨_, rfl⟩
      rw [← hwq] at MS LB ⊢
      clear hwq
      obtain ⟨w15, hw15⟩ : ∃ v, v = wq.alloc (Obj.map #[] 0) := ⟨_, rfl⟩
      have L15 := Lib.hid (show Below wq.heap.size wq w15 by rw [hw15]; exact (Below.refl _ _).alloc (Nat.le_refl _) _)
      have MC15 := Lib.hid (show MapIs Tryz.prog 50 vKey klK (Value.int .i64) w15 wq.heap.size ([] : SuM) by rw [hw15]; exact MapIs.made wq _ _ _ _ _)
      rw [← hw15]
      clear hw15 hmm
      have hcl : (countC l).length ≤ n := by have h1 := rowC_len (sumF (cntL l)); have h2 := (sumF_facts 1 (cntL l) (cntL_one _)).1; have h3 := cntL_len l; have h4 := HL.out; unfold countC; omega
      go_upto_region 16 with (go_at_call 47; refine (count_any ((H.out.below LB.out).below L15.out) HL.out (by omega)).mono ?_; rintro e w16 ⟨v16, rfl, ho, hb⟩; obtain ⟨A7, c7, rfl, _⟩ := Src.of_own ho; have O16 := Lib.hid (own_loR ho L15.out.size); have L16 := Lib.hid (below_chain L15.out hb); have MC16 := Lib.hid (MC15.out.below hb MC15.out.lt); clear ho hb)
      clear MC15 L15
      have HCL := Lib.hid hcl
      go_loopg [60] (countC l).length (fun k iv wr => ∃ q : Nat, iv = .int .i64 (q : Int) ∧ q ≤ (countC l).length ∧ q + k ≤ (countC l).length ∧ (countC l).length ≤ q + k ∧ MapIs Tryz.prog 50 vKey klK (Value.int .i64) wr wq.heap.size (cMof ((countC l).take q)) ∧ wr.ownsRow wq.heap.size 89 33 (.slice A7 (countC l).length c7) (countC l).length (cnsC (countC l)) ∧ Below wq.heap.size wq wr)
      case atStart => exact ⟨0, rfl, by omega, by omega, by omega, MC16.out, O16.out, L16.out⟩
      case round =>
        obtain ⟨q, rfl, q1, q2, q3, hm, ho, hb⟩ := hrel
        have MQ := Lib.hid hm
        have OQ := Lib.hid ho
        have LQ := Lib.hid hb
        clear hm ho hb MC16 O16 L16
        by_cases hq : q < (countC l).length
        · have hqI : (q : Int) < ((countC l).length : Int) := by omega
          obtain ⟨b, off, hA, hr⟩ := src_part cnC_len (Src.of_own OQ.out) rfl hq
          have HTk := Lib.hid (show cMof ((countC l).take (q + 1)) = aput (cMof ((countC l).take q)) (countC l)[q].key (countC l)[q].ref by rw [List.take_succ_eq_append_getElem hq, cMof_snoc])
          generalize (countC l)[q] = x at hr HTk
          have OQ2 := Lib.hid OQ.out
          clear OQ
          subst hA
          have Rg := Lib.hid hr
          clear hr
          have HN := Lib.hid (show (cMof ((countC l).take q)).length < maxLen by have := cMof_len ((countC l).take q); rw [List.length_take] at this; unfold maxLen; omega)
          go_upto_region 18 with (first
            | ((with_reducible show wpList _ _ _ (_ :: _) _ _); refine wpl_sidx rfl 85 (.tmp 58) (.tmp 60) (by rfl) Tryz.underlying85 Tryz.sizeOf89 b off (countC l).length c7 q (by rfl) (by rfl) hq ?_; simp only [Act.put, List.setIfInBounds_toArray, List.set_cons_zero, List.set_cons_succ])
            | ((with_reducible show wpList _ _ _ (_ :: _) _ _); refine wpList_load_mid rfl 89 (.tmp 62) (by rfl) b (off + q * 33) (by rfl) (cnC x) _ Rg.out Tryz.underlying89 rfl (cnC_info x) ?_; simp only [Act.put, List.setIfInBounds_toArray, List.set_cons_zero, List.set_cons_succ])
            | ((with_reducible show wpList _ _ _ (_ :: _) _ _); refine wpl_alloc rfl 89 (by rfl) Tryz.zeroValue89 33 rfl ?_; intro wa cs hk hc hg hz; have K := Lib.hid hk; have Cs := Lib.hid hc; have G := Lib.hid hg; clear hk hc hg hz; simp only [Act.put, List.setIfInBounds_toArray, List.set_cons_zero, List.set_cons_succ])
            | ((with_reducible show wpList _ _ _ (_ :: _) _ _); refine wpl_over rfl 89 (.tmp 15) (.tmp 63) (by rfl) wr.heap.size (cnC x) (by rfl) (by rfl) _ cs K.out (cnC_info x) (by rw [cnC_len, Cs.out]) (cnC_one x) ?_; intro wb hk hg hz; have K2 := Lib.hid hk; have L2 := Lib.hid (bl_g (bl_n (Below.refl _ _) G.out) hg (Nat.le_refl _)); clear hk hg hz; simp only [Act.put, List.setIfInBounds_toArray, List.set_cons_zero, List.set_cons_succ]))
          have MQ2 := Lib.hid (MQ.out.below L2.out MQ.out.lt)
          have ck := K2.out.cell (i := 32) (by rw [List.getElem?_toArray]; exact cnC_ref x)
          have RQ := Lib.hid (K2.out.part 0 (keyL x.key) (cnC_key x))
          have OB := Lib.hid (own_belowR OQ2.out L2.out)
          go_wp2_with (first
            | ((with_reducible show wpList _ _ _ (_ :: _) _ _); refine wpList_load_mid rfl 50 (.tmp 65) (by rfl) wr.heap.size 0 (by rfl) (keyL x.key) _ RQ.out Tryz.underlying50 rfl (keyL_info _) ?_; simp only [Act.put, List.setIfInBounds_toArray, List.set_cons_zero, List.set_cons_succ])
            | ((with_reducible show wpList _ _ _ (_ :: _) _ _); refine wpl_mput rfl 69 (.tmp 64) (.tmp 66) (.tmp 68) (by rfl) keyed_key Tryz.underlying69 MQ2.out HN.out (by rfl) x.key (by rfl) x.ref (by rfl) (klK_inj' _) (keyOf_key _) ?_; intro w18 hm hg; have M18 := Lib.hid hm; have G18 := Lib.hid hg; clear hm hg; simp only [Act.put, List.setIfInBounds_toArray, List.set_cons_zero, List.set_cons_succ]))
          go_roundg (gk - 1)
          case measure => omega
          case rel =>
            refine ⟨q + 1, by congr 1, by omega, by omega, by omega, by rw [HTk.out]; exact M18.out, own_keptR OB.out G18.out (fun k hk hv => ?_), bl_g (below_chain LQ.out L2.out) G18.out (Nat.le_refl _)⟩
            injection hk with hk
            subst hk
            obtain ⟨cs, hcs⟩ := own_obj OB.out hv
            obtain ⟨es, c, hm⟩ := MQ2.out.obj
            rw [hm] at hcs
            cases hcs
        · have hqI : ¬ (q : Int) < ((countC l).length : Int) := by omega
          have MC := Lib.hid (show MapIs Tryz.prog 50 vKey klK (Value.int .i64) wr wq.heap.size (cMof (countC l)) by have := MQ.out; rwa [List.take_of_length_le (by omega)] at this)
          obtain ⟨wz, hwz⟩ : ∃ v, v = wr := ⟨_, rfl⟩
          rw [← hwz] at MC LQ ⊢
          clear hwz MQ OQ
          have MSz := Lib.hid (MS.out.below LQ.out MS.out.lt)
          have LBz := Lib.hid (below_chain LB.out LQ.out)
          clear MS
          go_upto_region 21 with fail
          go_loopg [72] n (fun k iv wr => ∃ q : Nat, iv = .int .i64 (q : Int) ∧ q ≤ n ∧ q + k ≤ n ∧ n ≤ q + k ∧ (l.take q).all (okI N l) = true ∧ Below wz.heap.size wz wr)
          case atStart => exact ⟨0, rfl, by omega, by omega, by omega, by simp, Below.refl _ _⟩
          case round =>
            obtain ⟨q, rfl, q1, q2, q3, ha, hb⟩ := hrel
            have HA := Lib.hid ha
            have LR := Lib.hid hb
            clear ha hb
            by_cases hq : q < n
            · have hqI : (q : Int) < (n : Int) := by omega
              have hql : q < l.length := by rw [HL.out]; exact hq
              obtain ⟨b, off, hA, hr⟩ := src_part itC_len (H.out.below (below_chain LBz.out LR.out)) HL.out hql
              have HXb := Lib.hid (HB.out _ (List.getElem_mem hql))
              have HAx := Lib.hid (fun h => all_take_succ (p := okI N l) hql HA.out h)
              have HAb := Lib.hid (fun h => makes_bad3 (units := N) hql h)
              generalize l[q] = x at hr HXb HAx HAb
              subst hA
              have Rg := Lib.hid hr
              clear hr hql
              go_upto_region 23 with (first
                | ((with_reducible show wpList _ _ _ (_ :: _) _ _); refine wpl_sidx rfl 41 (.tmp 70) (.tmp 72) (by rfl) Tryz.underlying41 Tryz.sizeOf56 b off n c q (by rfl) (by rfl) hq ?_; simp only [Act.put, List.setIfInBounds_toArray, List.set_cons_zero, List.set_cons_succ])
                | ((with_reducible show wpList _ _ _ (_ :: _) _ _); refine wpList_load_mid rfl 56 (.tmp 74) (by rfl) b (off + q * 73) (by rfl) (itC x) _ Rg.out Tryz.underlying56 rfl (itC_info x) ?_; simp only [Act.put, List.setIfInBounds_toArray, List.set_cons_zero, List.set_cons_succ])
                | ((with_reducible show wpList _ _ _ (_ :: _) _ _); refine wpl_alloc rfl 56 (by rfl) Tryz.zeroValue56 73 zero_It_len ?_; intro wa cs hk hc hg hz; have K := Lib.hid hk; have C := Lib.hid hc; have G := Lib.hid hg; clear hk hc hg hz; simp only [Act.put, List.setIfInBounds_toArray, List.set_cons_zero, List.set_cons_succ])
                | ((with_reducible show wpList _ _ _ (_ :: _) _ _); refine wpl_over rfl 56 (.tmp 17) (.tmp 75) (by rfl) wr.heap.size (itC x) (by rfl) (by rfl) _ cs K.out (itC_info x) (by rw [itC_len, C.out]) (itC_one x) ?_; intro wb hk hg hz; have K2 := Lib.hid hk; have L2 := Lib.hid (bl_g (bl_n (Below.refl _ _) G.out) hg (Nat.le_refl _)); clear hk hg hz; simp only [Act.put, List.setIfInBounds_toArray, List.set_cons_zero, List.set_cons_succ]))
              have LRb := Lib.hid (below_chain LR.out L2.out)
              have LWb := Lib.hid (below_chain LBz.out LRb.out)
              have MS2 := Lib.hid (MSz.out.below LRb.out MSz.out.lt)
              have MC2 := Lib.hid (MC.out.below LRb.out MC.out.lt)
              have ck := itC_cell K2.out (j := 0) (v := .int .u8 x.kind) rfl
              clear K C G Rg LR
              by_cases hk1 : x.kind = 1
              · have b1 : (x.kind == 1) = true := beq_iff_eq.2 hk1
                have HO := Lib.hid (show okI N l x = decide (cntI l x.key = x.pl.ref) by unfold okI; rw [if_pos hk1])
                clear hk1
                obtain ⟨m0, hm0⟩ : ∃ m, m = valF (cMof (countC l)) x.key := ⟨_, rfl⟩
                have HM0 := Lib.hid hm0
                have HMc := Lib.hid (show m0 = cntI l x.key by rw [hm0, cM_cnt])
                clear hm0
                have cr := itC_cell K2.out (itC_ref2 x)
                go_upto_region 25 with fail
                refine wp_region_qs (fun _ w' => (w'.rangeAt wr.heap.size 1 (keyL x.key) ∧ w'.cell? ⟨wr.heap.size, 36, none⟩ = some (.int .i64 x.pl.ref)) ∧ MapIs Tryz.prog 50 vKey klK (Value.int .i64) w' wq.heap.size (cMof (countC l))) [(0, some 0), (1, some 0), (2, some 0), (3, some 0), (4, some 0), (5, some 0), (6, some 0), (7, some 0)] (by kernel_rfl) (by kernel_rfl) (by kernel_rfl) (by kernel_rfl) (by kernel_rfl) (fun _ _ _ _ _ h => h) ⟨⟨K2.out.drew.part 1 _ (it_key x), cr⟩, MC2.out.drew⟩ ?_
                simp only [List.map_cons, List.map_nil, List.getD_cons_succ, List.getD_cons_zero]
                (repeat (first | ((first | (refine qs_row (by rfl) 50 (.tmp 81) (by rfl) wr.heap.size 1 (by rfl) (keyL x.key) _ (fun j w' _ h2 h => h.1.1) Tryz.underlying50 rfl (keyL_info _) ?_) | (refine qs_sum (by rfl) 69 (.tmp 80) (.tmp 82) (by rfl) Tryz.underlying69 (by rfl) x.key (by rfl) m0 (fun j w' _ h2 h => ⟨_, h.2, HM0.out.symm⟩) ?_)); simp only [Act.put, List.setIfInBounds_toArray, List.set_cons_zero, List.set_cons_succ]) | (refine qs_now (v := ?_) (by rfl) ?_ ?_; rotate_left 1; (· (intro w' hS; go_simp; (try (simp only [↓IntWalk.iteOmega]; go_simp)); (try simp (disch := omega) only [IntWalk.i64_in]); try with_reducible rfl)); simp only [Act.put, List.setIfInBounds_toArray, List.set_cons_zero, List.set_cons_succ]) | (refine qs_run (v := ?_) (by rfl) ?_ ?_; rotate_left 1; (· (intro j w' hS; go_simp; (try (simp only [↓IntWalk.iteOmega]; go_simp)); (try simp (disch := omega) only [IntWalk.i64_in]); try with_reducible rfl)); simp only [Act.put, List.setIfInBounds_toArray, List.set_cons_zero, List.set_cons_succ]) | (refine qs_mid (v := ?_) (by rfl) ?_ ?_; rotate_left 1; (· (intro j w' hj1 hj2 hS; go_simp; (try (simp only [↓IntWalk.iteOmega]; go_simp)); (try simp (disch := omega) only [IntWalk.i64_in]); try with_reducible rfl)); simp only [Act.put, List.setIfInBounds_toArray, List.set_cons_zero, List.set_cons_succ]) | (refine qs_skip (by rfl) ?_; simp only [Act.put, List.setIfInBounds_toArray, List.set_cons_zero, List.set_cons_succ])))
                refine qs_nil ?_
                by_cases he : m0 = x.pl.ref
                · have d1 : (m0 != x.pl.ref) = false := by simp [he]
                  have HE := Lib.hid (show okI N l x = true by rw [HO.out, ← HMc.out]; exact decide_eq_true he)
                  clear he
                  go_wp2_with fail
                  go_roundg (gk - 1)
                  case measure => omega
                  case rel => exact ⟨q + 1, by congr 1, by omega, by omega, by omega, HAx.out HE.out, LRb.out.drew⟩
                · have d1 : (m0 != x.pl.ref) = true := by simp [he]
                  have HE := Lib.hid (HAb.out (show okI N l x = false by rw [HO.out, ← HMc.out]; exact decide_eq_false he))
                  clear he
                  go_wp2_with fail
                  go_ret
                  refine ⟨?_, LWb.out.drew⟩
                  rw [HE.out]
                  rfl
              · have b1 : (x.kind == 1) = false := beq_eq_false_iff_ne.2 hk1
                by_cases hk2 : x.kind = 2
                · have b2 : (x.kind == 2) = true := beq_iff_eq.2 hk2
                  obtain ⟨y, hy⟩ : ∃ y, y = (aget (seenM l) (thE x.sl.key)).getD zIt := ⟨_, rfl⟩
                  obtain ⟨ok, hok⟩ : ∃ y, y = (aget (seenM l) (thE x.sl.key)).isSome := ⟨_, rfl⟩
                  obtain ⟨y2, hy2⟩ : ∃ y, y = (aget (seenM l) (thS x.snap)).getD zIt := ⟨_, rfl⟩
                  obtain ⟨iz, hiz⟩ : ∃ y, y = (aget (seenM l) (thS x.snap)).isSome := ⟨_, rfl⟩
                  have HO := Lib.hid (show okI N l x = (ok && decide (x.sl.off < y.pl.uni) && decide (x.unit < N) && (decide (x.snap ≤ 0) || iz)) by
                    unfold okI
                    rw [if_neg hk1, if_pos hk2, hok, hy, hiz]
                    cases aget (seenM l) (thE x.sl.key) <;> simp)
                  have HY := Lib.hid (show ((aget (seenM l) (thE x.sl.key)).map vIt).getD (vIt zIt) = .agg (itC y).toArray by rw [th_look, hy]; rfl)
                  have HY2 := Lib.hid (show ((aget (seenM l) (thS x.snap)).map vIt).getD (vIt zIt) = .agg (itC y2).toArray by rw [th_look, hy2]; rfl)
                  have HOk := Lib.hid hok
                  have HIz := Lib.hid hiz
                  have HV1 := Lib.hid (show vTh (thE x.sl.key) = .agg (thC ⟨1, x.sl.key, 0, 0⟩).toArray from vTh_mk ⟨by simp, i64B_zero, i64B_zero⟩)
                  have HV2 := Lib.hid (show vTh (thS x.snap) = .agg (thC ⟨3, zKey, x.snap, 0⟩).toArray from vTh_mk ⟨by simp, HXb.out.2.2.1, i64B_zero⟩)
                  clear hk1 hk2 hy hok hy2 hiz
                  have RK := Lib.hid (K2.out.part 39 (keyL x.sl.key) (itC_slkey x))
                  have s0 := itC_cell K2.out (it_snap x)
                  go_upto_region 29 with (first
                    | ((with_reducible show wpList _ _ _ (_ :: _) _ _); refine wpList_load_mid rfl 50 (.tmp 93) (by rfl) wr.heap.size 39 (by rfl) (keyL x.sl.key) _ RK.out Tryz.underlying50 rfl (keyL_info _) ?_; simp only [Act.put, List.setIfInBounds_toArray, List.set_cons_zero, List.set_cons_succ])
                    | ((with_reducible show wpList _ _ _ (_ :: _) _ _); refine wpl_mk rfl 149 #[(0, .const (.int .u8 1)), (1, .tmp 94)] (by rfl) [(0, .int .u8 1), (1, .agg (keyL x.sl.key).toArray)] (by rfl) _ (built_th1 1 x.sl.key) ?_; simp only [Act.put, List.setIfInBounds_toArray, List.set_cons_zero, List.set_cons_succ])
                    | ((with_reducible show wpList _ _ _ (_ :: _) _ _); refine wpl_mlookOk rfl 146 (.tmp 91) (.tmp 95) (by rfl) keyed_th Tryz.underlying146 MS2.out (by rfl) (thE x.sl.key) (by rw [HV1.out]; rfl) zero_It (klTh_inj' _) (keyOf_th _) ?_; rewrite [HY.out, ← HOk.out]; simp only [Act.put, List.setIfInBounds_toArray, List.set_cons_zero, List.set_cons_succ])
                    | ((with_reducible show wpList _ _ _ (_ :: _) _ _); refine wpl_alloc rfl 56 (by rfl) Tryz.zeroValue56 73 zero_It_len ?_; intro w31 cs1 hk hc hg hz; have K31 := Lib.hid hk; have C31 := Lib.hid hc; have L31 := Lib.hid (bl_n (Below.refl _ wb) hg); clear hk hc hg hz; simp only [Act.put, List.setIfInBounds_toArray, List.set_cons_zero, List.set_cons_succ])
                    | ((with_reducible show wpList _ _ _ (_ :: _) _ _); refine wpl_over rfl 56 (.tmp 18) (.tmp 97) (by rfl) wb.heap.size (itC y) (by rfl) (by rfl) _ cs1 K31.out (itC_info y) (by rw [itC_len, C31.out]) (itC_one y) ?_; intro w32 hk hg hz; have K32 := Lib.hid hk; have L32 := Lib.hid (bl_g L31.out hg (Nat.le_refl _)); clear hk hg hz; simp only [Act.put, List.setIfInBounds_toArray, List.set_cons_zero, List.set_cons_succ]))
                  have KX := Lib.hid (K2.out.below L32.out K2.out.lt)
                  have MS3 := Lib.hid (MS2.out.below L32.out MS2.out.lt)
                  clear s0
                  have s0 := itC_cell KX.out (it_snap x)
                  go_upto_region 30 with (first
                    | ((with_reducible show wpList _ _ _ (_ :: _) _ _); refine wpl_mk rfl 149 #[(0, .const (.int .u8 3)), (2, .tmp 102)] (by rfl) [(0, .int .u8 3), (2, .int .i64 x.snap)] (by rfl) _ (built_th3 3 x.snap) ?_; simp only [Act.put, List.setIfInBounds_toArray, List.set_cons_zero, List.set_cons_succ])
                    | ((with_reducible show wpList _ _ _ (_ :: _) _ _); refine wpl_mlookOk rfl 146 (.tmp 100) (.tmp 103) (by rfl) keyed_th Tryz.underlying146 MS3.out (by rfl) (thS x.snap) (by rw [HV2.out]; rfl) zero_It (klTh_inj' _) (keyOf_th _) ?_; rewrite [HY2.out, ← HIz.out]; simp only [Act.put, List.setIfInBounds_toArray, List.set_cons_zero, List.set_cons_succ])
                    | ((with_reducible show wpList _ _ _ (_ :: _) _ _); refine wpl_alloc rfl 56 (by rfl) Tryz.zeroValue56 73 zero_It_len ?_; intro w33 cs2 hk hc hg hz; have K33 := Lib.hid hk; have C33 := Lib.hid hc; have L33 := Lib.hid (bl_n (Below.refl _ w32) hg); clear hk hc hg hz; simp only [Act.put, List.setIfInBounds_toArray, List.set_cons_zero, List.set_cons_succ])
                    | ((with_reducible show wpList _ _ _ (_ :: _) _ _); refine wpl_over rfl 56 (.tmp 20) (.tmp 105) (by rfl) w32.heap.size (itC y2) (by rfl) (by rfl) _ cs2 K33.out (itC_info y2) (by rw [itC_len, C33.out]) (itC_one y2) ?_; intro w34 hk hg hz; have K34 := Lib.hid hk; have L34 := Lib.hid (bl_g L33.out hg (Nat.le_refl _)); clear hk hg hz; simp only [Act.put, List.setIfInBounds_toArray, List.set_cons_zero, List.set_cons_succ]))
                  have KX4 := Lib.hid (KX.out.below L34.out KX.out.lt)
                  have KY4 := Lib.hid (K32.out.below L34.out K32.out.lt)
                  have LR4 := Lib.hid (below_chain (below_chain LRb.out L32.out) L34.out)
                  have LW4 := Lib.hid (below_chain LBz.out LR4.out)
                  clear s0
                  have s0 := itC_cell KX4.out (it_snap x)
                  have s1 := itC_cell KX4.out (it_unit x)
                  have s2 := itC_cell KX4.out (it_off x)
                  have s3 := itC_cell KY4.out (it_uni y)
                  clear KX KX4 K32 K34 KY4 MS3 K2 RK C31 L31 K31 C33 L33 K33
                  cases ok
                  case false =>
                    have HE := Lib.hid (HAb.out (show okI N l x = false by rw [HO.out]; rfl))
                    go_wp2_with fail
                    go_ret
                    refine ⟨?_, LW4.out⟩
                    rw [HE.out]
                    rfl
                  case true =>
                    by_cases h1 : x.sl.off < y.pl.uni
                    · have e1 : ¬ y.pl.uni ≤ x.sl.off := by omega
                      by_cases h2 : x.unit < N
                      · have e2 : ¬ N ≤ x.unit := by omega
                        by_cases h3 : x.snap ≤ 0
                        · have e3 : ¬ 0 < x.snap := by omega
                          have HE := Lib.hid (show okI N l x = true by rw [HO.out, decide_eq_true h1, decide_eq_true h2, decide_eq_true h3]; rfl)
                          clear h1 h2 h3
                          go_wp2_with fail
                          go_roundg (gk - 1)
                          case measure => omega
                          case rel => exact ⟨q + 1, by congr 1, by omega, by omega, by omega, HAx.out HE.out, LR4.out⟩
                        · have e3 : 0 < x.snap := by omega
                          cases iz
                          case false =>
                            have HE := Lib.hid (HAb.out (show okI N l x = false by rw [HO.out, decide_eq_true h1, decide_eq_true h2, decide_eq_false h3]; rfl))
                            clear h1 h2 h3
                            go_wp2_with fail
                            go_ret
                            refine ⟨?_, LW4.out⟩
                            rw [HE.out]
                            rfl
                          case true =>
                            have HE := Lib.hid (show okI N l x = true by rw [HO.out, decide_eq_true h1, decide_eq_true h2]; simp)
                            clear h1 h2 h3
                            go_wp2_with fail
                            go_roundg (gk - 1)
                            case measure => omega
                            case rel => exact ⟨q + 1, by congr 1, by omega, by omega, by omega, HAx.out HE.out, LR4.out⟩
                      · have e2 : N ≤ x.unit := by omega
                        have HE := Lib.hid (HAb.out (show okI N l x = false by rw [HO.out, decide_eq_true h1, decide_eq_false h2]; rfl))
                        clear h1 h2
                        go_wp2_with fail
                        go_ret
                        refine ⟨?_, LW4.out⟩
                        rw [HE.out]
                        rfl
                    · have e1 : y.pl.uni ≤ x.sl.off := by omega
                      have HE := Lib.hid (HAb.out (show okI N l x = false by rw [HO.out, decide_eq_false h1]; rfl))
                      clear h1
                      go_wp2_with fail
                      go_ret
                      refine ⟨?_, LW4.out⟩
                      rw [HE.out]
                      rfl
                · have b2 : (x.kind == 2) = false := beq_eq_false_iff_ne.2 hk2
                  have HE := Lib.hid (show okI N l x = true by unfold okI; rw [if_neg hk1, if_neg hk2])
                  clear hk1 hk2
                  go_wp2_with fail
                  go_roundg (gk - 1)
                  case measure => omega
                  case rel => exact ⟨q + 1, by congr 1, by omega, by omega, by omega, HAx.out HE.out, LRb.out⟩
            · have hqI : ¬ (q : Int) < (n : Int) := by omega
              have HO := Lib.hid (show l.all (okI N l) = true by have := HA.out; rwa [List.take_of_length_le (by rw [HL.out]; omega)] at this)
              have HF := Lib.hid (makes_end HAll.out HNd.out HO.out)
              have e : decide ((snapsN l : Int) ≤ 8) = decide (snapsN l ≤ 8) := by rw [decide_eq_decide]; omega
              have HE := Lib.hid e
              clear e
              go_wp2_with fail
              go_ret
              refine ⟨?_, below_chain LBz.out LR.out⟩
              rw [HF.out, ← HE.out]
              rfl
end Go.Proofs.YtgjjdfhoakailaaGreat
